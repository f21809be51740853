/- Parts of the proof, one behind the other. -/
import Derived.Test.YtpobhbdomldecaaGreatDoorPprP2
import Derived.Laws.EntriesVeiled
import Derived.BigQuiet
import Derived.Laws.AppendOwnNone
import Derived.Carry
import Derived.Lib.Strings
import Derived.Great.Walk
import Derived.Laws.AppendOwn
import Derived.Laws.MakeOwn
import Derived.IntWalk
import Derived.WalkMore
import Derived.Lib.ConvBytes
import Derived.Defers
import Derived.Recover
import Derived.LaidEql
import Derived.Stop.Asserts
import Derived.RowKitTokens
namespace Go.Proofs.YtpobhbdomldecaaGreatDoor
open Go.RowKit
set_option linter.unusedSimpArgs false
set_option linter.unusedVariables false
def depN(els:List ByteArray):Nat:=Lib.bitLen (len els - 1)
theorem depN_le{els:List ByteArray}(h:len els≤65536):depN els≤16:=(depth_bd (len els) h).1
theorem depthZ_len{els:List ByteArray}(h:len els≤65536):depthZ (len els:Nat)=((depN els:Nat):Int):=by
 unfold depthZ depN
 rw[if_neg (by omega),Int.toNat_natCast]
def TreeAt(els:List ByteArray)(b:Nat)(w:World):Prop:=∃p,w.heap[b]?=some (.cells #[.pointer (some ⟨p,0,none⟩),.int .i64 (depN els:Nat),.int .i64 (len els:Nat)] 124 (0,0))∧PlaceIs els (depN els) (depN els) 0 p w
theorem TreeAt.below{els:List ByteArray}{b:Nat}{w w':World}(h:TreeAt els b w)(hb:Below w.heap.size w w'):TreeAt els b w':=by
 obtain⟨p,h1,h2⟩:=h
 exact⟨p,(hb.block _ (lt_of_block h1)).trans h1,h2.below hb⟩
def BuildIs(els:List ByteArray)(w:World)(e:Ending)(w':World):Prop:=∃b,e=.returned (.tuple #[.pointer (some ⟨b,0,none⟩),.int .i64 0])∧w.heap.size≤b∧TreeAt els b w'∧Below w.heap.size w w'
set_option maxRecDepth 100000 in
set_option maxHeartbeats 4000000 in
theorem build_any(els:List ByteArray)(a:Option Addr)(cap:Nat)(w:World)(ht:Txts w a els)(hn:len els≤65536)(hz:∀i,i<len els→(tth els i).size≤140737488355200):
  Calls Tryz.prog 42 #[.slice a (len els) cap] w (BuildIs els w):=by
 have HT:=Lib.hid ht;have HN:=Lib.hid hn;have HZ:=Lib.hid hz
 obtain⟨d,hd⟩:∃d,depN els=d:=⟨_,rfl⟩
 have HDD:=Lib.hid hd;have HD16:Hid (d≤16):=Lib.hid (by rw[←hd];exact depN_le hn);have HDZ:Hid (depthZ (len els:Nat)=((d:Nat):Int)):=Lib.hid (by rw[←hd];exact depthZ_len hn);have n1:¬(65536:Int)<(len els:Nat):=by omega
 clear ht hz hd
 go_enter Tryz.func42,Tryz.ntmps42
 go_wp2_with fail
 refine(depth_any (len els:Nat) _ (by omega) (by omega)).mono ?_
 rintro e w1 ⟨rfl,rfl⟩
 rw[HDZ.out]
 clear n1 hn
 go_wp2_with fail
 obtain⟨bE,hbE⟩:∃bE,w.heap.size=bE:=⟨_,rfl⟩
 obtain⟨bD,hbD⟩:∃bD,w.heap.size+1=bD:=⟨_,rfl⟩
 rw[hbD,hbE]
 obtain⟨V,hV⟩:∃V,(w.alloc (.cells #[.slice a (len els) cap] 36)).alloc (.cells #[.int .i64 (d:Nat)] 3)=V:=⟨_,rfl⟩
 rw[hV]
 have HVE:Hid (V.heap[bE]?=some (.cells #[.slice a (len els) cap] 36 (0,0))):=Lib.hid (by rw[←hV];exact block_alloc (alloc_new_at _ hbE) _);have HVD:Hid (V.heap[bD]?=some (.cells #[.int .i64 (d:Nat)] 3 (0,0))):=Lib.hid (by rw[←hV];exact alloc_new_at _ (by rw[alloc_size _ rfl];exact hbD));have HVW:Hid (Below w.heap.size w V):=Lib.hid (by rw[←hV];exact balloc (balloc (Below.refl _ _) _) _);clear hV hbE hbD
 refine(hash_any noneT [] none 0 V (by decide) (by decide) (Txts.nil _ _) (by decide)).mono ?_
 rintro e w2 ⟨rfl,hb2⟩
 have H2E:Hid (w2.heap[bE]?=some (.cells #[.slice a (len els) cap] 36 (0,0))):=Lib.hid ((hb2.block _ (lt_of_block HVE.out)).trans HVE.out);have H2D:Hid (w2.heap[bD]?=some (.cells #[.int .i64 (d:Nat)] 3 (0,0))):=Lib.hid ((hb2.block _ (lt_of_block HVD.out)).trans HVD.out);have H2W:Hid (Below w.heap.size w w2):=Lib.hid (bnext HVW.out hb2)
 obtain⟨Hn,hHn⟩:∃Hn,hashP noneT []=Hn:=⟨_,rfl⟩
 rw[hHn]
 have HHN:=Lib.hid hHn;clear hb2 hHn HVE HVD HVW
 go_upto_region 7 with fail
 obtain⟨nb,hnb⟩:∃nb,w2.heap.size=nb:=⟨_,rfl⟩
 obtain⟨bN,hbN⟩:∃bN,w2.heap.size+1=bN:=⟨_,rfl⟩
 obtain⟨bF,hbF⟩:∃bF,w2.heap.size+1+1=bF:=⟨_,rfl⟩
 rw[hbF,hbN,hnb]
 obtain⟨U,hU⟩:∃U,(((w2.alloc (.cells #[.string Hn,.pointer none,.pointer none] 118)).alloc (.cells #[.pointer (some ⟨nb,0,none⟩)] 115)).alloc (.cells #[.func (.func 91) #[] #[.pointer (some ⟨bF,0,none⟩),.pointer (some ⟨bD,0,none⟩),.pointer (some ⟨bE,0,none⟩),.pointer (some ⟨bN,0,none⟩)]] 119))=U:=⟨_,rfl⟩
 rw[hU]
 have HEN:Hid (EnvT els d bF bD bE bN nb a cap U):=Lib.hid (by
  have hbw:Below w.heap.size w U:=by rw[←hU];exact balloc (balloc (balloc H2W.out _) _) _
  refine⟨?_,?_,?_,?_,?_,HT.out.below hbw⟩
  ·rw[←hU];exact alloc_new_at _ (by rw[alloc_size _ (alloc_size _ rfl)];exact hbF)
  ·rw[←hU];exact block_alloc (block_alloc (block_alloc H2D.out _) _) _
  ·rw[←hU];exact block_alloc (block_alloc (block_alloc H2E.out _) _) _
  ·rw[←hU];exact block_alloc (alloc_new_at _ (by rw[alloc_size _ rfl];exact hbN)) _
  ·rw[←hU,HHN.out];exact block_alloc (block_alloc (alloc_new_at _ hnb) _) _)
 have HUW:Hid (Below w.heap.size w U):=Lib.hid (by rw[←hU];exact balloc (balloc (balloc H2W.out _) _) _);have HVS:Hid (w.heap.size≤U.heap.size):=Lib.hid HUW.out.size;have HA:Hid (∀wv:World,Below U.heap.size U wv→Calls Tryz.prog 91 #[.int .i64 (d:Nat),.int .u64 0,.pointer (some ⟨bF,0,none⟩),.pointer (some ⟨bD,0,none⟩),.pointer (some ⟨bE,0,none⟩),.pointer (some ⟨bN,0,none⟩)] wv (AtIs els d d 0 wv)):=Lib.hid (λ wv hb=>at_any els d bF bD bE bN nb a cap HD16.out HN.out HZ.out d 0 wv (Nat.le_refl _) (Nat.two_pow_pos _) (HEN.out.below hb));have cf:U.cell? ⟨bF,0,none⟩=some (.func (.func 91) #[] #[.pointer (some ⟨bF,0,none⟩),.pointer (some ⟨bD,0,none⟩),.pointer (some ⟨bE,0,none⟩),.pointer (some ⟨bN,0,none⟩)]):=by rw[block_cell HEN.out.f];rfl
 have cd:U.cell? ⟨bD,0,none⟩=some (.int .i64 (d:Nat)):=by rw[block_cell HEN.out.d];rfl
 have ce:U.cell? ⟨bE,0,none⟩=some (.slice a (len els) cap):=by rw[block_cell HEN.out.e];rfl
 clear hU hnb hbN hbF H2D H2E H2W
 refine wp_region_tail 8 1000 (none) (phis [λ u _=>u=(.func (.func 91) #[] #[.pointer (some ⟨bF,0,none⟩),.pointer (some ⟨bD,0,none⟩),.pointer (some ⟨bE,0,none⟩),.pointer (some ⟨bN,0,none⟩)]),λ u _=>u=(.int .i64 (d:Nat)),λ u w'=>∃g,u=.pointer (some ⟨g,0,none⟩)∧PlaceIs els d d 0 g w',λ u _=>u=(.int .i64 (d:Nat)),λ u _=>u=(.slice a (len els) cap),λ u _=>u=(.int .i64 (len els)),λ u w'=>∃g,u=.agg #[.pointer (some ⟨g,0,none⟩),.int .i64 (d:Nat),.int .i64 (len els)]∧PlaceIs els d d 0 g w',λ u w'=>∃b,u=.pointer (some ⟨b,0,none⟩)∧w.heap.size≤b∧TreeAt els b w']) rfl (by kernel_rfl) (by kernel_rfl) (mono_of ⟨mono_eq,mono_eq,?m2,mono_eq,mono_eq,mono_eq,?m6,?m7,trivial⟩) (steps_of 8 ⟨?s0,?s1,?s2,?s3,?s4,?s5,?s6,?s7,trivial⟩) ?_
 case m2=>
  exact⟨λ u w1 w' h ⟨b,h1,hb⟩=>⟨b,h1,hb.ext h⟩,λ _ u w1 w' h ⟨b,h1,hb⟩=>⟨b,h1,hb.extB h⟩⟩
 case m6=>
  exact⟨λ u w1 w' h ⟨b,h1,hb⟩=>⟨b,h1,hb.ext h⟩,λ _ u w1 w' h ⟨b,h1,hb⟩=>⟨b,h1,hb.extB h⟩⟩
 case m7=>
  exact⟨λ u w1 w' h ⟨b,h1,h2,hb⟩=>⟨b,h1,h2,hb.below h⟩,λ _ u w1 w' h ⟨b,h1,h2,hb⟩=>⟨b,h1,h2,hb.below (extB_none h)⟩⟩
 case s0=>
  refine qV (λ _=>rfl) rfl λ av wv hE hO hD=>?_
  simp[go_sem,qF av 6 (.pointer (some ⟨bF,0,none⟩)) (hO.2.2 6 rfl),extB_cell hE (by simp) cf,extB_cell hE (by simp) cd,extB_cell hE (by simp) ce]
 case s1=>
  refine qV (λ _=>rfl) rfl λ av wv hE hO hD=>?_
  simp[go_sem,qF av 4 (.pointer (some ⟨bD,0,none⟩)) (hO.2.2 4 rfl),extB_cell hE (by simp) cf,extB_cell hE (by simp) cd,extB_cell hE (by simp) ce]
 case s2=>
  refine step_wp (λ av wv hE hS hO hD=>⟨rfl,?_⟩)
  have f17:=qE (hD.1 rfl _ rfl);have f18:=qE (hD.2.1 rfl _ rfl)
  refine wp_of_callV (R:=λ u w2=>(∃g,u=.pointer (some ⟨g,0,none⟩)∧PlaceIs els d d 0 g w2)∧Below wv.heap.size wv w2) (f:=91) (args:=#[.int .i64 (d:Nat),.int .u64 0,.pointer (some ⟨bF,0,none⟩),.pointer (some ⟨bD,0,none⟩),.pointer (some ⟨bE,0,none⟩),.pointer (some ⟨bN,0,none⟩)]) (by simp[go_sem,f17,f18]) ((HA.out wv (of_drew hE)).mono (λ e w2 ⟨g,h1,h2,h3⟩=>⟨_,h1,⟨g,rfl,h2⟩,h3⟩)) (λ u w2 ⟨h1,h2⟩=>⟨_,rfl,es_of_ext h2,h1⟩)
 case s3=>
  refine qV (λ _=>rfl) rfl λ av wv hE hO hD=>?_
  simp[go_sem,qF av 4 (.pointer (some ⟨bD,0,none⟩)) (hO.2.2 4 rfl),extB_cell hE (by simp) cf,extB_cell hE (by simp) cd,extB_cell hE (by simp) ce]
 case s4=>
  refine qV (λ _=>rfl) rfl λ av wv hE hO hD=>?_
  simp[go_sem,qF av 1 (.pointer (some ⟨bE,0,none⟩)) (hO.2.2 1 rfl),extB_cell hE (by simp) cf,extB_cell hE (by simp) cd,extB_cell hE (by simp) ce]
 case s5=>
  refine qV (λ _=>rfl) rfl λ av wv hE hO hD=>?_
  simp[go_sem,qE (hD.1 rfl _ rfl)]
 case s6=>
  refine step_wp (λ av wv hE hS hO hD=>⟨rfl,?_⟩)
  have d19:(λ u w'=>∃g,u=.pointer (some ⟨g,0,none⟩)∧PlaceIs els d d 0 g w') (av.eval (.tmp 19)) wv:=hD.1 rfl _ rfl;have f20:=qE (hD.2.1 rfl _ rfl);have f22:=qE (hD.2.2.1 rfl _ rfl)
  obtain⟨g,h19,hg⟩:=d19
  have f19:=(ev_form av 19).symm.trans h19
  exact wp_of_run (v:=.agg #[.pointer (some ⟨g,0,none⟩),.int .i64 (d:Nat),.int .i64 (len els)]) (by simp[go_sem,f19,f20,f22]) ⟨_,rfl,es_of_ext (Ext_refl _),g,rfl,hg⟩
 case s7=>
  refine step_wp (λ av wv hE hS hO hD=>⟨rfl,?_⟩)
  have d23:(λ u w'=>∃g,u=.agg #[.pointer (some ⟨g,0,none⟩),.int .i64 (d:Nat),.int .i64 (len els)]∧PlaceIs els d d 0 g w') (av.eval (.tmp 23)) wv:=hD.1 rfl _ rfl
  obtain⟨g,h23,hg⟩:=d23
  have f23:=(ev_form av 23).symm.trans h23
  refine wp_of_run (v:=.pointer (some ⟨wv.heap.size,0,none⟩)) (w':=wv.alloc (.cells #[.pointer (some ⟨g,0,none⟩),.int .i64 (d:Nat),.int .i64 (len els)] 124)) (by simp[go_sem,f23]) ⟨_,rfl,es_of_ext (balloc (Ext_refl _) _),wv.heap.size,rfl,(by have:=hE.size;have:=HVS.out;simp at *;omega),g,?_,?_⟩
  ·rw[HDD.out];exact heap_alloc_new _ _
  ·rw[HDD.out];exact hg.below (balloc (Below.refl _ _) _)
 intro a' w' hE hO hall
 have hA:=act_of_outer (ds:=[17,18,19,20,21,22,23,24]) rfl hO (by kernel_rfl)
 obtain⟨j0,j1,j2,j3,j4,j5,j6,j7,-⟩:=hall
 have e19:(λ u w'=>∃g,u=.pointer (some ⟨g,0,none⟩)∧PlaceIs els d d 0 g w') (a'.eval (.tmp 19)) w':=j2 _ rfl;have e23:(λ u w'=>∃g,u=.agg #[.pointer (some ⟨g,0,none⟩),.int .i64 (d:Nat),.int .i64 (len els)]∧PlaceIs els d d 0 g w') (a'.eval (.tmp 23)) w':=j6 _ rfl;have e24:(λ u w'=>∃b,u=.pointer (some ⟨b,0,none⟩)∧w.heap.size≤b∧TreeAt els b w') (a'.eval (.tmp 24)) w':=j7 _ rfl
 obtain⟨v19,hv19⟩:∃v,a'.eval (.tmp 19)=v:=⟨_,rfl⟩
 rw[hv19]at e19
 obtain⟨v23,hv23⟩:∃v,a'.eval (.tmp 23)=v:=⟨_,rfl⟩
 rw[hv23]at e23
 obtain⟨v24,hv24⟩:∃v,a'.eval (.tmp 24)=v:=⟨_,rfl⟩
 rw[hv24]at e24
 simp only[List.foldl_cons,List.foldl_nil,Act.put,List.setIfInBounds_toArray,List.set_cons_succ,List.set_cons_zero,qJ 17 (j0 _ rfl),qJ 18 (j1 _ rfl),hv19,qJ 20 (j3 _ rfl),qJ 21 (j4 _ rfl),qJ 22 (j5 _ rfl),hv23,hv24]at hA
 clear hO j2 j6 j7 j0 j1 hv19 j3 j4 j5 hv23 hv24
 subst hA
 obtain⟨g,rfl,hg,ht⟩:=e24
 have HG:Hid (w.heap.size≤g):=Lib.hid hg;have HT2:=Lib.hid ht;have HW:Hid (Below w.heap.size w w'):=Lib.hid (bnext HUW.out (of_drew hE));clear hg ht hE e19 e23
 go_wp2
 go_ret2
 exact⟨g,rfl,HG.out,HT2.out,HW.out⟩
theorem root_any(els:List ByteArray)(b:Nat)(w:World)(h:TreeAt els b w):Calls Tryz.prog 43 #[.pointer (some ⟨b,0,none⟩)] w λ e w'=>e=.returned (.string (plD els (depN els) (depN els) 0))∧w=w':=by
 obtain⟨p,h1,h2⟩:=h
 have c0:w.cell? ⟨b,0,none⟩=some (.pointer (some ⟨p,0,none⟩)):=by rw[block_cell h1];rfl
 have c1:=h2.digest;clear h1 h2
 go_enter Tryz.func43,Tryz.ntmps43
 go_wp2
 go_ret
 exact⟨rfl,rfl⟩
theorem tdepth_any(els:List ByteArray)(b:Nat)(w:World)(h:TreeAt els b w):Calls Tryz.prog 66 #[.pointer (some ⟨b,0,none⟩)] w λ e w'=>e=.returned (.int .i64 (depN els:Nat))∧w=w':=by
 obtain⟨p,h1,h2⟩:=h
 have c0:w.cell? ⟨b,1,none⟩=some (.int .i64 (depN els:Nat)):=by rw[block_cell h1];rfl
 clear h1 h2
 go_enter Tryz.func66,Tryz.ntmps66
 go_wp2
 go_ret
 exact⟨rfl,rfl⟩
theorem tlen_any(els:List ByteArray)(b:Nat)(w:World)(h:TreeAt els b w):Calls Tryz.prog 99 #[.pointer (some ⟨b,0,none⟩)] w λ e w'=>e=.returned (.int .i64 (len els:Nat))∧w=w':=by
 obtain⟨p,h1,h2⟩:=h
 have c0:w.cell? ⟨b,2,none⟩=some (.int .i64 (len els:Nat)):=by rw[block_cell h1];rfl
 clear h1 h2
 go_enter Tryz.func99,Tryz.ntmps99
 go_wp2
 go_ret
 exact⟨rfl,rfl⟩
end Go.Proofs.YtpobhbdomldecaaGreatDoor
namespace Go.Proofs.YtpobhbdomldecaaGreatDoor
open Go.RowKit
set_option linter.unusedSimpArgs false
set_option linter.unusedVariables false
theorem mem_flatFrom:∀(s:Nat) (rs:List (List Int)) (x:Int × Int),x ∈ flatFrom s rs→∃j,j<rs.length∧∃k ∈ rnth rs j,x=(((s+j:Nat):Int),k)
 | _,[],x,h=>by simp[flatFrom]at h
 | s,r :: rs,x,h=>by
  rw[flatFrom,List.mem_append]at h
  rcases h with h | h
  ·obtain⟨k,hk,rfl⟩:=List.mem_map.1 h
   exact⟨0,by simp,k,by simpa [rnth] using hk,rfl⟩
  ·obtain⟨j,hj,k,hk,rfl⟩:=mem_flatFrom (s+1) rs x h
   refine⟨j+1,by simp;omega,k,by simpa [rnth] using hk,?_⟩
   rw[show s+1+j=s+(j+1)by omega]
theorem sib_bd{k:Int}{e:Nat}(h0:0≤k)(h1:k<2 ^ (e+1)):0≤sib k∧sib k<2 ^ (e+1):=by
 have h2:(2:Int) ^ (e+1)=2 * 2 ^ e:=by rw[Int.pow_succ];omega
 rw[h2]at h1 ⊢
 generalize (2:Int) ^ e=p at h1 ⊢
 unfold sib
 split <;> omega
theorem half_bd{y:Int}{d i:Nat}(h0:0≤y)(h1:y<2 ^ d)(hi:i≤d):0≤y / 2 ^ i∧y / 2 ^ i<2 ^ (d - i):=by
 obtain⟨n,rfl⟩:=Int.eq_ofNat_of_zero_le h0
 rw[pow_cast]at h1
 have h3:n<2 ^ d:=by exact_mod_cast h1
 have h4:n / 2 ^ i<2 ^ (d - i):=by
  apply Nat.div_lt_of_lt_mul
  rw[←Nat.pow_add,show i+(d - i)=d by omega]
  exact h3
 rw[pow_cast,pow_cast]
 constructor
 ·exact Int.ediv_nonneg h0 (Int.natCast_nonneg _)
 ·exact_mod_cast h4
theorem plc_bd{leaves:List Int}{d:Nat}(hd:d≤16)(h:∀y ∈ leaves,0≤y∧y<2 ^ d):∀x ∈ flatLv (needsL leaves (d:Nat)),∃i k:Nat,x=((i:Int),(k:Int))∧i<d∧k<2 ^ (d - i):=by
 intro x hx
 obtain⟨i,hi,k,hk,rfl⟩:=mem_flatFrom 0 _ x hx
 unfold needsL at hi hk
 split at hi
 ·rename_i hc
  rw[if_pos hc,Int.toNat_natCast]at hk
  rw[Int.toNat_natCast]at hi
  unfold rowsOf at hi hk
  rw[List.length_map,List.length_range]at hi
  rw[rnth_eq _ i (by simpa using hi)]at hk
  simp only[List.getElem_map,List.getElem_range]at hk
  unfold rowK at hk
  rw[srt_mem,needK_mem]at hk
  obtain⟨⟨j,hj,rfl⟩,_⟩:=hk
  rw[(insAll_all _).2.1,List.mem_map]at hj
  obtain⟨y,hy,rfl⟩:=hj
  have h1:=half_bd (h y hy).1 (h y hy).2 (Nat.le_of_lt hi)
  obtain⟨e,he⟩:∃e,d - i=e+1:=⟨d - i - 1,by omega⟩
  rw[he]at h1
  have h2:=sib_bd h1.1 h1.2
  refine⟨i,(sib (y / 2 ^ i)).toNat,?_,hi,?_⟩
  ·rw[Int.toNat_of_nonneg h2.1,Nat.zero_add]
  ·rw[he]
   have h3:=h2.2
   rw[pow_cast]at h3
   exact(Int.toNat_lt h2.1).2 h3
 ·simp at hi
theorem leaves_in{l:List Int}{d:Nat}(hd:d≤16):∀y ∈ leavesL l (d:Nat),0≤y∧y<2 ^ d:=by
 intro y hy
 obtain⟨k,_,rfl⟩:=List.mem_map.1 hy
 unfold turnedZ
 split
 ·have:=revOf_lt k.toNat ((d:Nat):Int).toNat
  rw[Int.toNat_natCast]at this ⊢
  rw[pow_cast]
  omega
 ·rw[pow_cast]
  have:=Nat.two_pow_pos d
  omega
def dgsL(els:List ByteArray)(L:List (Int × Int)):List ByteArray:=L.map λ x=>plD els (depN els) x.1.toNat x.2.toNat
theorem dgsL_snoc(els:List ByteArray)(L:List (Int × Int))(x:Int × Int):dgsL els (L++[x])=dgsL els L++[plD els (depN els) x.1.toNat x.2.toNat]:=by unfold dgsL;rw[List.map_append];rfl
end Go.Proofs.YtpobhbdomldecaaGreatDoor
namespace Go.Proofs.YtpobhbdomldecaaGreatDoor
open Go.RowKit
set_option linter.unusedSimpArgs false
set_option linter.unusedVariables false
set_option maxRecDepth 100000 in
set_option maxHeartbeats 4000000 in
theorem tat_any(els:List ByteArray)(b l k:Nat)(w:World)(h:TreeAt els b w)(hn:len els≤65536)(hl:l≤depN els)(hk:k<2 ^ (depN els - l)):
  Calls Tryz.prog 100 #[.pointer (some ⟨b,0,none⟩),.int .i64 (l:Nat),.int .u64 (k:Nat)] w λ e w'=>e=.returned (.tuple #[.string (plD els (depN els) l k),.bool true])∧Below w.heap.size w w':=by
 obtain⟨p0,h1,h2⟩:=h
 have hd16:=depN_le hn
 obtain⟨d,hd⟩:∃d,depN els=d:=⟨_,rfl⟩
 rw[hd]at h1 h2 hl hk hd16 ⊢
 have c0:w.cell? ⟨b,0,none⟩=some (.pointer (some ⟨p0,0,none⟩)):=by rw[block_cell h1];rfl
 have c1:w.cell? ⟨b,1,none⟩=some (.int .i64 (d:Nat)):=by rw[block_cell h1];rfl
 have HP:Hid (PlaceIs els d (l+(d - l)) (k / 2 ^ (d - l)) p0 w):=Lib.hid (by rw[Nat.div_eq_of_lt hk,show l+(d - l)=d by omega];exact h2);have HK:Hid (k<65536):=Lib.hid (Nat.lt_of_lt_of_le hk (pow_le16 (by omega)));have a2:¬((d:Nat):Int)<((l:Nat):Int):=by omega
 obtain⟨e,he⟩:∃e,d - l=e:=⟨_,rfl⟩
 rw[he]at HP hk
 have a3:IntKind.i64.wrap ((d:Int) - (l:Int))=((e:Nat):Int):=by rw[IntWalk.i64_in _ (by omega)];omega
 have a5:¬(e:Int)<0:=by omega
 have a4:((k:Nat):Int) / 2 ^ e=0:=by
  rw[pow_cast]
  have:k / 2 ^ e=0:=Nat.div_eq_of_lt hk
  exact_mod_cast this
 have a6:IntKind.i64.wrap ((e:Int) - 1)=(e:Int) - 1:=IntWalk.i64_in _ (by omega);have a1:¬((l:Nat):Int)<0:=by omega
 have a7:min e 64=e:=by omega
 have HE:Hid (e≤16):=Lib.hid (by omega);clear h1 h2 hd hk he hl hd16
 go_enter Tryz.func100,Tryz.ntmps100
 go_upto_region 5 with fail
 clear c0 c1 a1 a2 a3 a4 a5 a6 a7
 go_loopg [9,8] e (λ g i p wr=>∃(t q:Nat),g=t∧i=.int .i64 ((t:Int) - 1)∧p=.pointer (some ⟨q,0,none⟩)∧t≤16∧Hid (PlaceIs els d (l+t) (k / 2 ^ t) q wr)∧Hid (Below w.heap.size w wr))
 case atStart=>exact⟨e,p0,rfl,rfl,rfl,HE.out,HP,Lib.hid (Below.refl _ _)⟩
 case round=>
  clear HP
  obtain⟨t,q,hgt,rfl,rfl,ht,HP,HW⟩:=hrel
  have HGT:=Lib.hid hgt;clear hgt
  cases t with
  | zero=>
   have i1:¬(0:Int)≤((0:Nat):Int) - 1:=by decide
   have cq:wr.cell? ⟨q,0,none⟩=some (.string (plD els d l k)):=by
    have:=HP.out.digest
    rwa [Nat.add_zero,Nat.pow_zero,Nat.div_one]at this
   go_wp2
   go_ret2
   exact⟨rfl,HW.out⟩
  | succ t=>
   rw[show((t+1:Nat):Int) - 1=((t:Nat):Int)by omega]
   have i1:(0:Int)≤((t:Nat):Int):=by omega
   obtain⟨W,hW⟩:∃W,wr=W:=⟨_,rfl⟩
   rw[hW]at HP HW ⊢
   clear hW
   obtain⟨b0,b1,hn9,h0,h1⟩:=HP.out
   obtain⟨x,hx⟩:∃x,k / 2 ^ t=x:=⟨_,rfl⟩
   obtain⟨y,hy⟩:∃y,x % 2=y:=⟨_,rfl⟩
   have hxx:k / 2 ^ (t+1)=x / 2:=by rw[←hx,Nat.div_div_eq_div_mul,Nat.pow_succ]
   have hx6:x<65536:=by rw[←hx];exact Nat.lt_of_le_of_lt (Nat.div_le_self _ _) HK.out
   rw[hxx]at h0 h1
   obtain⟨q2,hq2⟩:∃q2,(if y=0 then b0 else b1)=q2:=⟨_,rfl⟩
   have cq:W.cell? ⟨q,1+y,none⟩=some (.pointer (some ⟨q2,0,none⟩)):=by
    rw[block_cell hn9,←hq2]
    by_cases hy0:y=0
    ·rw[if_pos hy0,hy0];rfl
    ·rw[if_neg hy0,show y=1 by omega];rfl
   have HP2:Hid (PlaceIs els d (l+t) (k / 2 ^ t) q2 W):=Lib.hid (by
    rw[hx,←hq2]
    by_cases hy0:y=0
    ·rw[if_pos hy0,show x=2 * (x / 2)by omega];exact h0
    ·rw[if_neg hy0,show x=2 * (x / 2)+1 by omega];exact h1)
   have s1:min t 64=t:=by omega
   have s2:((k:Nat):Int) / 2 ^ t=((x:Nat):Int):=by rw[pow_cast,←hx];rfl
   have s3:bits .and .u64 ((x:Nat):Int) 1=((y:Nat):Int):=by
    rw[show(1:Int)=((1:Nat):Int)from rfl,u64_and_nat _ _ (by omega) (by omega),Nat.and_one_is_mod,hy]
   have s4:¬(2:Int)≤((y:Nat):Int):=by omega
   have s5:¬((t:Nat):Int)<0:=by omega
   clear hx hy hxx hx6 hn9 h0 h1 hq2
   go_upto_region 7 with fail
   refine wp_region_tail 9 1000 (none) (phis (List.map qv [.pointer (some ⟨q,0,none⟩),.int .u64 (k:Nat),.int .i64 (t:Nat),.int .u64 (x:Nat),.int .u64 (y:Nat),.pointer (some ⟨q,0,none⟩),.pointer (some ⟨q,1,none⟩),.pointer (some ⟨q,1+y,none⟩),.pointer (some ⟨q2,0,none⟩)])) rfl (by kernel_rfl) (by kernel_rfl) (mono_of mono_qv) (steps_of 9 ⟨?s0,?s1,?s2,?s3,?s4,?s5,?s6,?s7,?s8,trivial⟩) ?_
   case s0=>
    refine qV (λ _=>rfl) rfl λ av wv hE hO hD=>?_
    simp[go_sem,qF av 8 (.pointer (some ⟨q,0,none⟩)) (hO.2.2 8 rfl),s1,s2,s3,s4,s5]
   case s1=>
    refine qV (λ _=>rfl) rfl λ av wv hE hO hD=>?_
    simp[go_sem,qF av 2 (.int .u64 (k:Nat)) (hO.2.2 2 rfl),s1,s2,s3,s4,s5]
   case s2=>
    refine qV (λ _=>rfl) rfl λ av wv hE hO hD=>?_
    simp[go_sem,qF av 9 (.int .i64 (t:Nat)) (hO.2.2 9 rfl),s1,s2,s3,s4,s5]
   case s3=>
    refine qV (λ _=>rfl) rfl λ av wv hE hO hD=>?_
    simp[go_sem,qE (hD.1 rfl _ rfl),qE (hD.2.1 rfl _ rfl),s1,s2,s3,s4,s5]
   case s4=>
    refine qV (λ _=>rfl) rfl λ av wv hE hO hD=>?_
    simp[go_sem,qE (hD.1 rfl _ rfl),s1,s2,s3,s4,s5]
   case s5=>
    refine qV (λ _=>rfl) rfl λ av wv hE hO hD=>?_
    simp[go_sem,qE (hD.1 rfl _ rfl),s1,s2,s3,s4,s5]
   case s6=>
    refine qV (λ _=>rfl) rfl λ av wv hE hO hD=>?_
    simp[go_sem,qE (hD.1 rfl _ rfl),s1,s2,s3,s4,s5]
   case s7=>
    refine qV (λ _=>rfl) rfl λ av wv hE hO hD=>?_
    simp[go_sem,qE (hD.1 rfl _ rfl),qE (hD.2.1 rfl _ rfl),s1,s2,s3,s4,s5]
   case s8=>
    refine qV (λ _=>rfl) rfl λ av wv hE hO hD=>?_
    simp[go_sem,qE (hD.1 rfl _ rfl),extB_cell hE (by simp) cq,s1,s2,s3,s4,s5]
   intro a' w' hE hO hall
   have hA:=act_of_outer (ds:=[50,51,52,53,54,55,56,57,58]) rfl hO (by kernel_rfl)
   obtain⟨j0,j1,j2,j3,j4,j5,j6,j7,j8,-⟩:=hall
   simp only[List.foldl_cons,List.foldl_nil,Act.put,List.setIfInBounds_toArray,List.set_cons_succ,List.set_cons_zero,qJ 50 (j0 _ rfl),qJ 51 (j1 _ rfl),qJ 52 (j2 _ rfl),qJ 53 (j3 _ rfl),qJ 54 (j4 _ rfl),qJ 55 (j5 _ rfl),qJ 56 (j6 _ rfl),qJ 57 (j7 _ rfl),qJ 58 (j8 _ rfl)]at hA
   clear hO j0 j1 j2 j3 j4 j5 j6 j7 j8
   subst hA
   have HW2:Hid (Below w.heap.size w w'):=Lib.hid (bnext HW.out (of_drew hE));have HP3:Hid (PlaceIs els d (l+t) (k / 2 ^ t) q2 w'):=Lib.hid (HP2.out.below (of_drew hE));have a6:IntKind.i64.wrap (((t:Nat):Int) - 1)=((t:Nat):Int) - 1:=IntWalk.i64_in _ (by omega);clear hE cq s1 s2 s3 s4 s5
   go_wp2
   go_roundg t
   case rel=>exact⟨t,q2,rfl,rfl,rfl,by omega,HP3,HW2⟩
   case measure=>have:=HGT.out;omega
end Go.Proofs.YtpobhbdomldecaaGreatDoor
namespace Go.Proofs.YtpobhbdomldecaaGreatDoor
open Go.RowKit Go.ChangeMaps
set_option linter.unusedSimpArgs false
set_option linter.unusedVariables false
attribute [local go_sem] Oper.semAt_some
theorem info_str:(Tryz.prog.info? 9).map (λ i=>(i.zero,i.size,i.bytes))=some (some (.string ⟨#[]⟩),1,16):=by kernel_rfl
def ProofIs(l:List ByteArray)(er:Int)(w:World)(e:Ending)(w':World):Prop:=∃v,e=.returned (.tuple #[v,.int .i64 er])∧w'.ownsRow w.heap.size 9 1 v (len l) (l.map Value.string)∧Below w.heap.size w w'
set_option maxRecDepth 100000 in
set_option maxHeartbeats 4000000 in
theorem prove_bad(els:List ByteArray)(b:Nat)(l:List Int)(a:Option Addr)(cap:Nat)(w:World)(ht:TreeAt els b w)(hn:len els≤65536)(h:U64s w a l)(hl:len l≤1000000000)(hb:¬MayOk (len els:Nat) l):
  Calls Tryz.prog 46 #[.pointer (some ⟨b,0,none⟩),.slice a (len l) cap] w (ProofIs [] 2 w):=by
 have HL:=Lib.hid (tlen_any els b w ht);have HM:=Lib.hid (mmay_any (len els:Nat) l a cap w h hl (by omega) (by omega))
 rw[decide_eq_false hb]at HM
 clear ht h hb
 go_enter Tryz.func46,Tryz.ntmps46
 go_wp2_with fail
 refine HL.out.mono ?_
 rintro e w1 ⟨rfl,rfl⟩
 go_wp2_with fail
 refine HM.out.mono ?_
 rintro e w1 ⟨rfl,hb1⟩
 have HB1:=Lib.hid hb1;clear hb1
 go_wp2
 go_ret2
 exact⟨_,rfl,World.ownsRow_nil _ _ _ _,HB1.out⟩
theorem exists_sub{α:Type}(P:α→Prop):∀(l:List α),(∀x ∈ l,P x)→∃L:List { x // P x },L.map Subtype.val=l
 | [],_=>⟨[],rfl⟩
 | x :: l,h=>by
  obtain⟨L,hL⟩:=exists_sub P l (λ y hy=>h y (List.mem_cons_of_mem _ hy))
  exact⟨⟨x,h x List.mem_cons_self⟩ :: L,by rw[List.map_cons,hL]⟩
abbrev PlX(d:Nat):={ x:Int × Int // ∃i k:Nat,x=((i:Int),(k:Int))∧i<d∧k<2 ^ (d - i) }
theorem kpo_append{o base k:Nat}{W w4:World}{tmp:Obj}{v v':Value}{xs:List Value}(hrow:W.ownsRow base 9 1 v k xs)(hg:(W.alloc tmp).grownBy w4 v.ownBlock):KpO o W (w4.setCell ⟨o,0,none⟩ v'):=by
 have hs:=hg.size
 refine⟨by simp at hs;simp[World.setCell];omega,λ b cs t fr hb ht hc=>?_⟩
 have hlt:=lt_of_block hc
 refine(Below.heap_setCell _ _ _ _ (λ e=>hb e)).trans ?_
 refine(hg.block b (by simp;omega) (λ e=>?_)).trans (block_alloc hc _)
 rcases hrow.2 with⟨rfl,_⟩ | ⟨g,cap,cur,rfl,_,hgb,_⟩
 ·simp[Value.ownBlock]at e
 ·simp[Value.ownBlock]at e
  subst e
  rw[hgb]at hc
  cases hc
  exact ht rfl
set_option maxRecDepth 100000 in
set_option maxHeartbeats 4000000 in
theorem prove_ok(els:List ByteArray)(b:Nat)(l:List Int)(a:Option Addr)(cap:Nat)(w:World)(ht:TreeAt els b w)(hn:len els≤65536)(h:U64s w a l)(hl:len l≤100)(hu:∀k ∈ l,U64 k)(hb:MayOk (len els:Nat) l):
  Calls Tryz.prog 46 #[.pointer (some ⟨b,0,none⟩),.slice a (len l) cap] w (ProofIs (dgsL els (plcL (len els:Nat) l)) 0 w):=by
 have HT:=Lib.hid ht;have HN:=Lib.hid hn;have HM:=Lib.hid (mmay_any (len els:Nat) l a cap w h (by omega) (by omega) (by omega))
 rw[decide_eq_true hb]at HM
 have HLN:=Lib.hid (tlen_any els b w ht);have H:=Lib.hid h;have HU:=Lib.hid hu
 obtain⟨d,hd⟩:∃d,depN els=d:=⟨_,rfl⟩
 have HDD:=Lib.hid hd;have HD16:Hid (d≤16):=Lib.hid (by rw[←hd];exact depN_le hn);have HPL:Hid (plcL (len els:Nat) l=flatLv (needsL (leavesL l d) d)):=Lib.hid (by unfold plcL;rw[depthZ_len hn,hd]);clear ht hn h hu hb hd
 obtain⟨i0,hi,hz0,hz1,hz2⟩:=info_parts info_str
 have HZ:=Lib.hid hz0;clear hz0
 refine(callsIn_wide (n:=9)).1 ?_
 refine callsIn_of_wp_marks Tryz.func46 rfl trivial ?_ rfl
 simp only[Tryz.ntmps46,List.size_toArray,List.length_cons,List.length_nil,Nat.reduceAdd,Nat.reduceSub,Array.replicate_succ,Array.replicate_zero,List.push_toArray,List.append_toArray,List.nil_append,List.cons_append]
 gi_wp2_with fail
 refine⟨trivial,(callsIn_wide.2 HLN.out).mono ?_⟩
 rintro e w1 ⟨rfl,rfl⟩
 gi_wp2_with fail
 refine⟨trivial,(callsIn_wide.2 HM.out).mono ?_⟩
 rintro e w1 ⟨rfl,hb1⟩
 have HB1:=Lib.hid hb1;have HT1:=Lib.hid (HT.out.below hb1);clear hb1 HM HLN
 obtain⟨ab,hab⟩:∃ab,w1.heap.size=ab:=⟨_,rfl⟩
 gi_wp2_with fail
 obtain⟨o,ho⟩:∃o,ab+1=o:=⟨_,rfl⟩
 rw[ho]
 obtain⟨V,hV⟩:∃V,((w1.alloc (.cells #[.func (.func 100) #[.pointer (some ⟨b,0,none⟩)] #[]] 128)).alloc (.cells #[.slice none 0 0] 36))=V:=⟨_,rfl⟩
 rw[hV]
 have V1:Hid (V.heap[ab]?=some (.cells #[.func (.func 100) #[.pointer (some ⟨b,0,none⟩)] #[]] 128 (0,0))):=Lib.hid (by rw[←hV];exact block_alloc (alloc_new_at _ hab) _);have V2:Hid (Boxed V o 36 (.slice none 0 0)):=Lib.hid (by rw[←hV];exact alloc_new_at _ (by rw[alloc_size _ rfl];omega));have VB:Hid (Below w.heap.size w V):=Lib.hid (by rw[←hV];exact balloc (balloc HB1.out _) _);have VS:Hid (w.heap.size≤ab∧ab<o):=Lib.hid ⟨by rw[←hab];exact HB1.out.size,by omega⟩;have HDP:=Lib.hid (tdepth_any els b V (HT.out.below VB.out))
 rw[HDD.out]at HDP
 clear hV hab ho HT1
 refine⟨trivial,(callsIn_wide.2 HDP.out).mono ?_⟩
 rintro e w2 ⟨rfl,rfl⟩
 gi_wp2_with fail
 refine⟨trivial,(callsIn_wide.2 (places_any a cap (len l) (d:Nat) _)).mono ?_⟩
 rintro e w3 ⟨rfl,hw3⟩
 obtain⟨s1,hs1⟩:∃s1,V.heap.size=s1:=⟨_,rfl⟩
 rw[hs1]
 have Z1:Hid (w3.heap[ab]?=some (.cells #[.func (.func 100) #[.pointer (some ⟨b,0,none⟩)] #[]] 128 (0,0))):=Lib.hid (by rw[hw3];exact block_alloc (block_alloc V1.out _) _);have Z0:Hid (Boxed w3 o 36 (.slice none 0 0)):=Lib.hid (by rw[hw3];exact block_alloc (block_alloc V2.out _) _);have Z2:Hid (w3.heap[s1]?=some (.cells #[.int .i64 (d:Nat)] 3 (0,0))):=Lib.hid (by rw[hw3];exact block_alloc (alloc_new_at _ hs1) _);have Z3:Hid (w3.heap[s1+1]?=some (.cells #[.slice a (len l) cap] 64 (0,0))):=Lib.hid (by rw[hw3];exact alloc_new_at _ (by rw[alloc_size _ rfl,hs1]));have ZB:Hid (Below w.heap.size w w3):=Lib.hid (by rw[hw3];exact balloc (balloc VB.out _) _);have ZS:Hid (o<w3.heap.size):=Lib.hid (Z0.out.lt);clear hw3 hs1 V1 V2 HDP
 obtain⟨L,hL⟩:∃L:List (PlX d),L.map Subtype.val=flatLv (needsL (leavesL l d) d):=exists_sub _ _ (plc_bd HD16.out (leaves_in HD16.out))
 have HLL:=Lib.hid hL;have HLB:Hid (L.length≤1600):=Lib.hid (by
  have h1:=flat_bd (leavesL l d) d (by rw[leavesL_len];exact hl)
  rw[←hL,List.length_map]at h1
  exact h1)
 gi_wp2_with fail
 refine wpIn_rangeFunc_ownF rfl (by omega) (gf:=163) (lb:=#[.pointer (some ⟨s1+1,0,none⟩),.pointer (some ⟨s1,0,none⟩)]) rfl trivial (enters_of Tryz.func163 (by kernel_rfl) rfl)
  (places_seq (Subtype.val:PlX d→Int × Int) L 8 (by omega) o (s1+1) s1 a cap l d w3 (by rw[block_cell Z3.out];rfl) (by rw[block_cell Z2.out];rfl) (H.out.below ZB.out) hl HD16.out HU.out ZS.out hL)
  KpO.trans (λ W l9 x x' _ hl hx _=>KpO.putObj o W l9 x x' hl hx) (Below.refl _ _) (λ _=>rfl)
  (λ pre W=>(∃v,Boxed W o 36 v∧W.ownsRow w.heap.size 9 1 v (len (dgsL els (pre.map Subtype.val))) ((dgsL els (pre.map Subtype.val)).map Value.string)∧True)∧W.heap[ab]?=some (.cells #[.func (.func 100) #[.pointer (some ⟨b,0,none⟩)] #[]] 128 (0,0))∧Below w.heap.size w W) (λ _ _ _=>False)
  (OwnFrom.and (Own.from (holdsRow_own w.heap.size o 36 9 1 (λ pre:List (PlX d)=>len (dgsL els (pre.map Subtype.val))) (λ pre=>(dgsL els (pre.map Subtype.val)).map Value.string) (λ _ _=>True)) _) (OwnFrom.and (own_one _ ab 128 (λ _:List (PlX d)=>.func (.func 100) #[.pointer (some ⟨b,0,none⟩)] #[])) (ownFrom_below (Nat.le_refl _) ZB.out.size))) (λ _ _ _ _ _ h _ _=>h)
  ⟨⟨_,Z0.out,World.ownsRow_nil _ _ _ _,trivial⟩,Z1.out,ZB.out⟩ ?a1 ?assign ?body ?done ?stop
 case assign=>
  intro l9 x W K hK
  gi_wp2
  exact hK
 case body=>
  rintro l9 pre ⟨x,i,k,rfl,hi9,hk9⟩ W ⟨⟨v,hv,hrow,-⟩,hO,hB⟩ hlt
  have ca:W.cell? ⟨ab,0,none⟩=some (.func (.func 100) #[.pointer (some ⟨b,0,none⟩)] #[]):=by rw[block_cell hO];rfl
  have HV:=Lib.hid hv;have HRW:=Lib.hid hrow;have HO:=Lib.hid hO;have HB:=Lib.hid hB;have HAT:=Lib.hid (tat_any els b i k W (HT.out.below hB) HN.out (by rw[HDD.out];omega) (by rw[HDD.out];exact hk9))
  rw[HDD.out]at HAT
  have HPB:Hid (len (dgsL els (pre.map Subtype.val))≤1600):=Lib.hid (by unfold dgsL;rw[len_eq,List.length_map,List.length_map];have:=HLB.out;omega);have HSN:Hid (dgsL els ((pre++[(⟨((i:Int),(k:Int)),i,k,rfl,hi9,hk9⟩:PlX d)]).map Subtype.val)=dgsL els (pre.map Subtype.val)++[plD els d i k]):=Lib.hid (by
   rw[List.map_append]
   show dgsL els (pre.map Subtype.val++[((i:Int),(k:Int))])=_
   rw[dgsL_snoc,HDD.out]
   simp)
  obtain⟨P9,hP9⟩:∃P9,dgsL els (pre.map Subtype.val)=P9:=⟨_,rfl⟩
  rw[hP9]at HRW HPB HSN
  obtain⟨X9,hX9⟩:∃X9,plD els d i k=X9:=⟨_,rfl⟩
  rw[hX9]at HAT HSN
  clear hv hrow hO hB hlt hP9 hX9
  dsimp only
  gi_wp2_with fail
  refine⟨trivial,(CallsIn.inRound l9 (callsIn_wide.2 HAT.out)).mono ?_⟩
  rintro e W2 ⟨rfl,hb2⟩
  have HV2:Hid (Boxed W2 o 36 v):=Lib.hid ((hb2.block _ HV.out.lt).trans HV.out);have HR2:Hid (W2.ownsRow w.heap.size 9 1 v (len P9) (P9.map Value.string)):=Lib.hid (own_below HRW.out hb2);have HO2:Hid (W2.heap[ab]?=some (.cells #[.func (.func 100) #[.pointer (some ⟨b,0,none⟩)] #[]] 128 (0,0))):=Lib.hid ((hb2.block _ (lt_of_block HO.out)).trans HO.out);have HB2:Hid (Below w.heap.size w W2):=Lib.hid (bnext HB.out hb2);have HWW:=Lib.hid hb2;have hc:=HV2.out.cell;have hpb:=HPB.out;clear hb2 ca HAT
  gi_wp2_with (gi_at_builtin;refine wpListIn_append_own _ rfl _ _ 36 rfl w.heap.size 9 i0 (.string ⟨#[]⟩) 1 16 Tryz.underlying36 hi HZ.out hz1 hz2 rfl (by decide) _ _ _ rfl (HR2.out.alloc _) ⟨W2.heap.size,0,none⟩ 1 1 [.string X9] rfl rfl (World.news_of_block (heap_alloc_new _ _)) (by intro u hu9;simp at hu9;subst hu9;rfl) (by unfold maxLen;omega) (by omega) (by have:=HB2.out.size;simp;omega) ?_;intro v' w4 hown' hgrow _;obtain⟨g',cap',rfl⟩:=ownsRow_succ hown';obtain⟨hv1,hv2,hr2,hk2,hb3⟩:=HV2.out.appended (by decide) HR2.out HB2.out.size (by have:=VS.out;omega) hown' hgrow;have hc1:=hv1.cell;have hf1:=hv1.frozen;have HQ1:=Lib.hid hv2;have HQ2:=Lib.hid hr2;have HQ3:=Lib.hid hk2;have HQ4:=Lib.hid hb3;have HQ5:=Lib.hid (kpo_append (o:=o) (v':=.slice (some ⟨g',0,none⟩) (len P9+1) cap') HR2.out hgrow);clear hv2 hr2 hk2 hb3 hown' hgrow)
  have HKO:Hid (KeepsOthers W W2):=Lib.hid (KeepsOthers.of_grownBy (below_grown HWW.out) (λ j o h=>by cases h));have HKP:Hid (KpO o W W2):=Lib.hid ⟨HWW.out.size,λ b9 cs t fr _ _ hc9=>(HWW.out.block _ (lt_of_block hc9)).trans hc9⟩
  refine⟨HKO.out.trans HQ3.out,HKP.out.trans HQ5.out,⟨_,HQ1.out,?_,trivial⟩,?_,HB2.out.trans HQ4.out⟩
  ·have e9:len (P9++[X9])=len P9+1:=by rw[len_eq,List.length_append];rfl
   rw[HSN.out,List.map_append,e9]
   exact HQ2.out
  ·exact HQ5.out.same _ _ _ _ (by have:=VS.out;omega) (by decide) HO2.out
 case done=>
  rintro D ys W hD rfl ⟨⟨v,hv,hrow,-⟩,hO,hB⟩ hK
  have hc:=hv.cell
  rw[HLL.out]at hrow
  have HR:=Lib.hid (ownsRow_putObj hrow (.deferred none) hK rfl);have HB:Hid (Below w.heap.size w (W.putObj D (.deferred none))):=Lib.hid (hB.trans (belowK_b (w:=w) (Nat.le_refl _) W D _ _ (Nat.le_trans ZB.out.size hD) hK rfl rfl));have HK:=Lib.hid hK;clear hO hB hrow
  gi_wp2
  refine⟨by simp,.inl ⟨_,_,rfl,run_takeDeferred HK.out,?_⟩⟩
  refine⟨_,results_tmp2 rfl _ _ _,v,rfl,?_,HB.out⟩
  rw[HPL.out]
  exact HR.out
 case stop=>
  intro D c pre W _ _ h _
  exact h.elim
end Go.Proofs.YtpobhbdomldecaaGreatDoor
namespace Go.Proofs.YtpobhbdomldecaaGreatDoor
open Go.RowKit
set_option linter.unusedSimpArgs false
set_option linter.unusedVariables false
theorem own_txts{w:World}{base n:Nat}{v:Value}{l:List ByteArray}(h:w.ownsRow base 9 1 v n (l.map Value.string)):∃a cap,v=.slice a (len l) cap∧Txts w a l:=by
 have hn:len l=n:=by have:=h.1;rw[len_eq];simpa using this
 rcases h.2 with⟨rfl,h2⟩ | ⟨g,cap,cur,rfl,hg,hh,hc1,hc2,hc3,hc4⟩
 ·obtain rfl:l=[]:=List.eq_nil_of_length_eq_zero (by rw[←len_eq];omega)
  exact⟨none,0,rfl,Txts.nil _ _⟩
 ·refine⟨some ⟨g,0,none⟩,cap,by rw[hn],λ i hi=>⟨g,0,rfl,?_⟩⟩
  have:=h.cellAt i (by omega);have hi2:i<l.length:=hi
  rw[Nat.zero_add,this,List.getElem?_map,List.getElem?_eq_getElem hi2,tth_eq l i hi];rfl
theorem str_beq(a b:ByteArray):(a.toList == b.toList)=decide (a=b):=by
 rw[ByteArray.toList_eq,ByteArray.toList_eq]
 by_cases h:a=b
 ·subst h;simp
 ·rw[decide_eq_false h]
  rw[beq_eq_false_iff_ne]
  intro h2
  exact h (ByteArray.ext (Array.ext' h2))
theorem hash1_any(tag s:ByteArray)(w:World)(h1:1≤tag.size)(h2:tag.size≤16)(hs:s.size≤1000000):Calls Tryz.prog 45 #[.string tag,.slice (some ⟨w.heap.size,0,none⟩) 1 1] (w.alloc (.cells #[.string s] 9)) λ e w'=>e=.returned (.string (hashP tag [s]))∧Below w.heap.size w w':=by
 have hw1:Txts (w.alloc (.cells #[.string s] 9)) (some ⟨w.heap.size,0,none⟩) [s]:=txts_cells (heap_alloc_new _ _) [s] (λ i hi=>by
  have:i=0:=by have:i<1:=hi;omega
  subst this;rfl)
 refine(hash_any tag [s] (some ⟨w.heap.size,0,none⟩) 1 _ h1 h2 hw1 (by show((partL s)++[]).length≤_;rw[List.append_nil,partL_len];omega)).mono ?_
 rintro e w2 ⟨rfl,hb2⟩
 exact⟨rfl,bnext (balloc (Below.refl _ _) _) hb2⟩
theorem hash2_any(tag s t:ByteArray)(w:World)(h1:1≤tag.size)(h2:tag.size≤16)(hs:s.size≤1000000)(ht:t.size≤1000000):Calls Tryz.prog 45 #[.string tag,.slice (some ⟨w.heap.size,0,none⟩) 2 2] (w.alloc (.cells #[.string s,.string t] 9)) λ e w'=>e=.returned (.string (hashP tag [s,t]))∧Below w.heap.size w w':=by
 have hw1:Txts (w.alloc (.cells #[.string s,.string t] 9)) (some ⟨w.heap.size,0,none⟩) [s,t]:=txts_cells (heap_alloc_new _ _) [s,t] (λ i hi=>by
  have:i=0 ∨ i=1:=by have:i<2:=hi;omega
  rcases this with rfl | rfl <;> rfl)
 refine(hash_any tag [s,t] (some ⟨w.heap.size,0,none⟩) 2 _ h1 h2 hw1 (by show((partL s)++((partL t)++[])).length≤_;rw[List.append_nil,List.length_append,partL_len,partL_len];omega)).mono ?_
 rintro e w2 ⟨rfl,hb2⟩
 exact⟨rfl,bnext (balloc (Below.refl _ _) _) hb2⟩
end Go.Proofs.YtpobhbdomldecaaGreatDoor
namespace Go.Proofs.YtpobhbdomldecaaGreatDoor
open Go.RowKit
set_option linter.unusedSimpArgs false
set_option linter.unusedVariables false
set_option maxRecDepth 100000 in
set_option maxHeartbeats 4000000 in
theorem pmay_any(n:Int)(l:List Int)(a:Option Addr)(cap:Nat)(w:World)(h:U64s w a l)(hn:len l≤1000000000)(h0:-9223372036854775808≤n)(h1:n≤9223372036854775807):Calls Tryz.prog 166 #[.int .i64 n,.slice a (len l) cap] w λ e w'=>e=.returned (.bool (decide (SizeOk n l)))∧Below w.heap.size w w':=by
 have H:=Lib.hid h;have HN:=Lib.hid hn
 by_cases c1:n<0
 ·have E:Hid (decide (SizeOk n l)=false):=Lib.hid (decide_eq_false (λ h9=>by have:=h9.1;omega))
  clear h hn h0 h1
  go_enter Tryz.func166,Tryz.ntmps166
  go_wp2
  go_ret
  exact⟨by(rw[E.out];try rfl),Below.refl _ _⟩
 ·by_cases c2:65536<n
  ·have E:Hid (decide (SizeOk n l)=false):=Lib.hid (decide_eq_false (λ h9=>by have:=h9.2.1;omega))
   clear h hn h0 h1
   go_enter Tryz.func166,Tryz.ntmps166
   go_wp2
   go_ret
   exact⟨by(rw[E.out];try rfl),Below.refl _ _⟩
  ·by_cases c3:len l=0
   ·have E:Hid (decide (SizeOk n l)=false):=Lib.hid (decide_eq_false (λ h9=>by have:=h9.2.2.1;omega))
    have z1:((len l:Nat):Int)=0:=by omega
    clear h hn h0 h1 c3
    go_enter Tryz.func166,Tryz.ntmps166
    go_wp2
    go_ret
    exact⟨by(rw[E.out];try rfl),Below.refl _ _⟩
   ·have z1:¬((len l:Nat):Int)=0:=by omega
    have n1:IntKind.u64.wrap n=n:=IntWalk.u64_in _ (by omega);have HC:=Lib.hid (And.intro c1 (And.intro c2 c3));clear h hn h0 h1 c3
    go_enter Tryz.func166,Tryz.ntmps166
    go_upto_region 4 with fail
    clear c1 c2 z1
    go_loopg [20] (len l) (λ g i wr=>∃m:Nat,g+m=len l∧i=.int .i64 m∧Hid (MayT n l m)∧Hid (Below w.heap.size w wr))
    case atStart=>exact⟨0,rfl,rfl,Lib.hid (λ i hi=>by omega),Lib.hid (Below.refl _ _)⟩
    case round=>
     obtain⟨m,hm,rfl,HR,HW⟩:=hrel
     have HNN:=HN.out
     by_cases hlt:m<len l
     ·have b0:(m:Int)<len l:=by omega
      obtain⟨b,off,hra,e1⟩:=(H.out.below HW.out) m hlt
      subst hra
      have l1:=lt_of_cell e1
      cases hge:decide (n≤nth l m)with
      | true=>
       have HGE:=Lib.hid hge
       go_wp2
       go_ret
       refine⟨?_,HW.out⟩
       have:¬SizeOk n l:=λ h9=>by
        have h1:=(h9.2.2.2 m hlt).1;have h2:=of_decide_eq_true HGE.out
        omega
       rw[decide_eq_false this];try rfl
      | false=>
       have HGE:=Lib.hid hge
       cases m with
       | zero=>
        have e1:wr.cell? ⟨b,off,none⟩=some (.int .u64 (nth l 0)):=e1;have hge0:decide (n≤nth l 0)=false:=HGE.out
        go_wp2
        go_roundg (len l - 1)
        case rel=>exact⟨1,by omega,by go_num,Lib.hid (HR.out.next (by have:=of_decide_eq_false HGE.out;omega) (λ h=>by omega)),HW⟩
        case measure=>omega
       | succ n3=>
        obtain⟨b6,off6,hpa6,e2⟩:=(H.out.below HW.out) n3 (by omega)
        cases hpa6
        cases hris:decide (nth l (n3+1)≤nth l n3)with
        | true=>
         have HRIS:=Lib.hid hris;have i1:IntKind.i64.wrap (n3:Int)=n3:=(IntWalk.i64_in _ (by omega));have i2:0≤(n3:Int)+1:=(by omega);have i3:((n3:Int)+1).toNat=n3+1:=(by omega)
         go_wp2
         clear i1 i2 i3
         go_ret
         refine⟨?_,HW.out⟩
         have:¬SizeOk n l:=λ h9=>by
          have h1:=(h9.2.2.2 (n3+1) hlt).2 (by omega);have h2:=of_decide_eq_true HRIS.out
          rw[Nat.add_sub_cancel]at h1
          omega
         rw[decide_eq_false this];try rfl
        | false=>
         have HRIS:=Lib.hid hris;have i1:IntKind.i64.wrap (n3:Int)=n3:=(IntWalk.i64_in _ (by omega));have i2:0≤(n3:Int)+1:=(by omega);have i3:((n3:Int)+1).toNat=n3+1:=(by omega)
         go_wp2
         clear i1 i2 i3
         go_roundg (len l - (n3+1+1))
         case rel=>exact⟨n3+1+1,by omega,by go_num,Lib.hid (HR.out.next (by have:=of_decide_eq_false HGE.out;omega) (λ _=>by
          have h2:=of_decide_eq_false HRIS.out
          rw[Nat.add_sub_cancel]
          omega)),HW⟩
         case measure=>omega
     ·obtain rfl:m=len l:=by omega
      have b0:¬((len l:Nat):Int)<len l:=by omega
      have E:Hid (decide (SizeOk n l)=true):=Lib.hid (decide_eq_true ⟨by have:=HC.out.1;omega,by have:=HC.out.2.1;omega,by have:=HC.out.2.2;omega,HR.out⟩)
      go_wp2
      go_ret
      exact⟨by(rw[E.out];try rfl),HW.out⟩
def badB(ds:List ByteArray):Bool:=decide (∃d ∈ ds,d.size≠32)
theorem len32_any(s:ByteArray)(w:World):Calls Tryz.prog 168 #[.string s] w λ e w'=>e=.returned (.bool (!decide ((s.size:Int)=32)))∧w=w':=by
 go_enter Tryz.func168,Tryz.ntmps168
 go_wp2
 go_ret
 exact⟨by first | rfl | simp,rfl⟩
def BadIs(ds:List ByteArray)(w:World)(e:Ending)(w':World):Prop:=∃j:Int,e=.returned (.int .i64 j)∧(0≤j ↔ ∃d ∈ ds,d.size≠32)∧w=w'
set_option maxRecDepth 100000 in
set_option maxHeartbeats 4000000 in
theorem badidx_any(a:Option Addr)(cap:Nat)(ds:List ByteArray)(w:World)(hl:Txts w a ds)(hlen:len ds≤9223372036854775807):
  Calls Tryz.prog 227 #[.slice a (len ds) cap,.func (.func 168) #[] #[]] w (BadIs ds w):=by
 have HL:=Lib.hid hl;clear hl
 go_enter Tryz.func227,Tryz.ntmps227
 go_wp2
 go_loop [8] (λ i=>∃m:Nat,m≤len ds∧i=.int .i64 m∧Hid (∀j,j<m→(tth ds j).size=32)) (λ i=>len ds - (intOf i).toNat)
 case atStart=>exact⟨0,Nat.zero_le _,rfl,λ j hj=>by omega⟩
 case round=>
  obtain⟨m,hm,rfl,hn⟩:=hrel
  by_cases hlt:m<len ds
  ·obtain⟨b,off,rfl,hcell⟩:=HL.out m hlt
   have b0:(m:Int)<len ds:=by omega
   obtain⟨s,hs⟩:∃s,tth ds m=s:=⟨_,rfl⟩
   rw[hs]at hcell
   have HS:=Lib.hid hs;have HM:Hid (s ∈ ds):=Lib.hid (by rw[←hs,tth_eq ds m hlt];exact List.getElem_mem _);clear hs
   go_wp2_with fail
   refine(len32_any s w).mono ?_
   rintro e w' ⟨rfl,rfl⟩
   by_cases hf:s.size=32
   ·have HF:=Lib.hid hf
    rw[decide_eq_true (show((s.size:Nat):Int)=32 by omega)]
    clear hf hcell
    go_wp2
    go_round
    case rel=>exact⟨m+1,by omega,by go_num,λ j hj=>by
     by_cases e:j=m
     ·subst e;rw[HS.out];exact HF.out
     ·exact hn.out j (by omega)⟩
    case measure=>simp[intOf];omega
   ·have HF:=Lib.hid hf
    rw[decide_eq_false (show ¬((s.size:Nat):Int)=32 by omega)]
    clear hf hcell
    go_wp2
    go_ret
    exact⟨m,rfl,⟨λ _=>⟨s,HM.out,HF.out⟩,λ _=>by omega⟩,rfl⟩
  ·obtain rfl:m=len ds:=by omega
   go_wp2
   go_ret
   refine⟨-1,rfl,⟨λ h=>by omega,fun ⟨k,hk,hf⟩=>?_⟩,rfl⟩
   obtain⟨j,hj,rfl⟩:=List.getElem_of_mem hk
   have h1:=hn.out j hj
   rw[tth_eq ds j hj]at h1
   exact absurd h1 hf
theorem bad_any(a:Option Addr)(cap:Nat)(ds:List ByteArray)(w:World)(hl:Txts w a ds)(hlen:len ds≤9223372036854775807):
  Calls Tryz.prog 167 #[.slice a (len ds) cap,.func (.func 168) #[] #[]] w λ e w'=>e=.returned (.bool (badB ds))∧w=w':=by
 have HL:=Lib.hid hl;clear hl
 go_enter Tryz.func167,Tryz.ntmps167
 go_wp2_with fail
 refine(badidx_any a cap ds w HL.out hlen).mono ?_
 rintro e w' ⟨j,rfl,hj,rfl⟩
 have HJ:=Lib.hid hj;clear hj
 by_cases h:0≤j
 ·have E:Hid (badB ds=true):=Lib.hid (decide_eq_true (HJ.out.1 h))
  go_wp2
  go_ret
  exact⟨by(rw[E.out];try rfl),rfl⟩
 ·have E:Hid (badB ds=false):=Lib.hid (decide_eq_false (λ hh=>h (HJ.out.2 hh)))
  go_wp2
  go_ret
  exact⟨ret_bool (by rw[E.out];simp;omega),rfl⟩
end Go.Proofs.YtpobhbdomldecaaGreatDoor
namespace Go.Proofs.YtpobhbdomldecaaGreatDoor
open Go.RowKit
set_option linter.unusedSimpArgs false
set_option linter.unusedVariables false
theorem rowK_mem(ks:List Int)(k:Int):k ∈ rowK ks ↔ (∃j ∈ ks,k=sib j)∧k ∉ ks:=by
 unfold rowK
 rw[srt_mem,needK_mem]
theorem rowK_len(ks:List Int):(rowK ks).length=(needK ks).length:=by
 unfold rowK srt
 exact(List.mergeSort_perm _ _).length_eq
theorem sib_ne(y:Int):sib y≠y:=by unfold sib;split <;> omega
theorem rowK_single(y:Int):(rowK [y]).length=1:=by
 rw[rowK_len]
 unfold needK
 have h:([y].map sib).filter (λ s=>!decide (s ∈ [y]))=[sib y]:=by
  simp[sib_ne y]
 rw[h]
 rfl
theorem rows_get(L:List Int)(d i:Nat)(hi:i<d):rnth (rowsOf L d) i=rowK (insAll (L.map (· / 2 ^ i))):=by
 rw[rnth_eq _ i (by unfold rowsOf;simpa using hi)]
 unfold rowsOf
 simp only[List.getElem_map,List.getElem_range]
theorem rows_len(L:List Int)(d:Nat):(rowsOf L d).length=d:=by unfold rowsOf;simp
theorem needs_rows{l:List Int}{d:Nat}(hd:d≤16)(h0:0<len l):needsL (leavesL l (d:Nat)) (d:Nat)=rowsOf (leavesL l (d:Nat)) d:=by
 unfold needsL
 rw[Int.toNat_natCast,if_pos]
 refine⟨by omega,by omega,by rw[leavesL_len];exact h0,?_⟩
 unfold farB
 rw[decide_eq_false]
 rintro⟨k,hk,h9⟩
 have:=(leaves_in hd k hk).2
 omega
theorem flat_len1:∀(s:Nat) (c:List (List Int)),(∀i,i<c.length→(rnth c i).length=1)→(flatFrom s c).length=c.length
 | _,[],_=>rfl
 | s,z :: c,h=>by
  have h1:=flat_len1 (s+1) c (λ i hi=>by
   have:=h (i+1) (by simp;omega)
   simpa [rnth] using this)
  have h2:=h 0 (by simp)
  simp only[rnth,List.getD_cons_zero]at h2
  simp only[flatFrom,List.length_append,List.length_map,List.length_cons]
  omega
theorem plcL_rows{n:Int}{l:List Int}{d:Nat}(hd:depthZ n=(d:Nat))(hd16:d≤16)(h0:0<len l):plcL n l=flatLv (rowsOf (leavesL l (d:Nat)) d):=by
 unfold plcL
 rw[hd,needs_rows hd16 h0]
theorem plc_one{n:Int}{d:Nat}{x:Int}(hd:depthZ n=(d:Nat))(hd16:d≤16):(plcL n [x]).length=d:=by
 rw[plcL_rows (l:=[x]) hd hd16 (show 0<len [x]from Nat.zero_lt_one)]
 have h:=flat_len1 0 (rowsOf (leavesL [x] (d:Nat)) d) (λ i hi=>by
  rw[rows_len]at hi
  rw[rows_get _ _ _ hi]
  exact rowK_single _)
 rw[rows_len]at h
 exact h
theorem dgs_len(els:List ByteArray)(L:List (Int × Int)):len (dgsL els L)=L.length:=by unfold dgsL;rw[len_eq,List.length_map]
end Go.Proofs.YtpobhbdomldecaaGreatDoor
namespace Go.Proofs.YtpobhbdomldecaaGreatDoor
open Go.RowKit
set_option linter.unusedSimpArgs false
set_option linter.unusedVariables false
theorem overF_some(g:KnF)(p:Int):(overF g p).isSome ↔ (g (2 * p)).isSome ∨ (g (2 * p+1)).isSome:=by
 unfold overF
 by_cases e:(g (2 * p)).isSome ∨ (g (2 * p+1)).isSome
 ·rw[if_pos e];simp[e]
 ·rw[if_neg e];simp only[e];simp
def SmF(g:KnF):Prop:=∀k d,g k=some d→d.size≤1000
theorem SmF.no:SmF noF:=λ k d h=>by cases h
theorem SmF.put{g:KnF}(h:SmF g)(k:Int)(d:ByteArray)(hd:d.size≤1000):SmF (putF g k d):=λ j x hx=>by
 by_cases e:j=k
 ·subst e;rw[putF_same]at hx;cases hx;exact hd
 ·rw[putF_other g d e]at hx;exact h j x hx
theorem SmF.over(g:KnF):SmF (overF g):=λ k d hx=>by
 by_cases e:(g (2 * k)).isSome ∨ (g (2 * k+1)).isSome
 ·have:overF g k=some (hashP nodeT [kidF g (2 * k),kidF g (2 * k+1)]):=over_some e
  rw[this]at hx;cases hx
  rw[hashP_size];omega
 ·exact absurd ((overF_some g k).1 (by rw[hx];rfl)) e
def leafD(es:List ByteArray):List ByteArray:=es.map λ s=>hashP leafT [s]
theorem leafD_at(es:List ByteArray)(i:Nat)(h:i<len es):tth (leafD es) i=hashP leafT [tth es i]:=by
 have h2:i<es.length:=h
 rw[tth_eq es i h]
 unfold tth leafD
 rw[List.getD_eq_getElem?_getD,List.getElem?_map,List.getElem?_eq_getElem h2]
 rfl
def g0F(lv:List Int)(es:List ByteArray):KnF:=addF noF lv (leafD es)
theorem rowsOf_at(lv:List Int)(d i:Nat)(h:i<d):rnth (rowsOf lv d) i=rowK (insAll (lv.map (· / 2 ^ i))):=by
 rw[rnth_eq _ i (by unfold rowsOf;simpa using h)]
 unfold rowsOf
 simp
theorem rowsOf_len(lv:List Int)(d:Nat):len (rowsOf lv d)=d:=by unfold rowsOf;rw[len_eq];simp
theorem row_mem(lv:List Int)(d i:Nat)(h:i<d)(k:Int):k ∈ rnth (rowsOf lv d) i ↔ (∃y ∈ lv,k=sib (y / 2 ^ i))∧¬∃y ∈ lv,k=y / 2 ^ i:=by
 rw[rowsOf_at lv d i h,rowK_mem]
 have e:∀j,j ∈ insAll (lv.map (· / 2 ^ i)) ↔ ∃y ∈ lv,j=y / 2 ^ i:=λ j=>by
  rw[(insAll_all _).2.1,List.mem_map]
  constructor
  ·rintro⟨y,h1,rfl⟩;exact⟨y,h1,rfl⟩
  ·rintro⟨y,h1,rfl⟩;exact⟨y,h1,rfl⟩
 rw[e]
 constructor
 ·rintro⟨⟨j,hj,rfl⟩,h2⟩
  obtain⟨y,hy,rfl⟩:=(e j).1 hj
  exact⟨⟨y,hy,rfl⟩,h2⟩
 ·rintro⟨⟨y,hy,rfl⟩,h2⟩
  exact⟨⟨_,(e _).2 ⟨y,hy,rfl⟩,rfl⟩,h2⟩
theorem turnedP_rev{k:Int}{d n:Nat}(hd:d≤16)(h0:0≤k)(hk:k<n)(hn:n≤2 ^ d):turnedZ k d=((revOf k.toNat d:Nat):Int):=by
 unfold turnedZ
 rw[if_pos ⟨by omega,by omega,by rw[Int.toNat_natCast,pow_cast];omega⟩,Int.toNat_natCast]
theorem needsP_rows{ps:List Int}{d n:Nat}(hd:d≤16)(h:MayOk n ps):needsL (leavesL ps (d:Nat)) (d:Nat)=rowsOf (leavesL ps (d:Nat)) d:=needs_rows hd h.1
def rowsP(n:Int)(ps:List Int):List (List Int):=needsL (leavesL ps (depthZ n)) (depthZ n)
def neededP(n:Int)(ps:List Int):Nat:=usedR (rowsP n ps) (len (rowsP n ps))
def digP(n:Int)(ps:List Int)(es ds:List ByteArray):ByteArray:=kidF (rootG (g0F (leavesL ps (depthZ n)) es) (rowsP n ps) ds) 0
def ArgOk(n:Int)(ps:List Int)(es:List ByteArray):Prop:=SizeOk n ps∧len es=len ps
instance (n:Int) (ps:List Int) (es:List ByteArray):Decidable (ArgOk n ps es):=by unfold ArgOk;exact inferInstance
def rootE(n:Int)(ps:List Int)(es ds:List ByteArray):Int:=
 if ¬ArgOk n ps es then 2 else if badB ds=true then 5 else if len ds<neededP n ps then 4 else if neededP n ps<len ds then 3 else 0
def rootS(n:Int)(ps:List Int)(es ds:List ByteArray):ByteArray:=if rootE n ps es ds=0 then digP n ps es ds else⟨#[]⟩
def RootIs(n:Int)(ps:List Int)(es ds:List ByteArray)(w:World)(e:Ending)(w':World):Prop:=e=.returned (.tuple #[.string (rootS n ps es ds),.int .i64 (rootE n ps es ds)])∧Below w.heap.size w w'
end Go.Proofs.YtpobhbdomldecaaGreatDoor
namespace Go.Proofs.YtpobhbdomldecaaGreatDoor
open Go.RowKit Go.ChangeMaps
set_option linter.unusedSimpArgs false
set_option linter.unusedVariables false
theorem flat_row_len(rs:List (List Int))(i:Nat)(hi:i<len rs):(flatAt rs (i+1) 0).length=(flatAt rs i 0).length+len (rnth rs i):=by
 rw[←flatAt_row rs i hi]
 unfold flatAt
 rw[take_len,List.take_zero,List.map_nil,List.append_nil,List.length_append,List.length_map]
 rfl
end Go.Proofs.YtpobhbdomldecaaGreatDoor
namespace Go.Proofs.YtpobhbdomldecaaGreatDoor
open Go.RowKit
set_option linter.unusedSimpArgs false
set_option linter.unusedVariables false
def AtK(lv:List Int)(i:Nat)(k:Int):Prop:=∃y ∈ lv,k=y / 2 ^ i
instance (lv:List Int) (i:Nat) (k:Int):Decidable (AtK lv i k):=by unfold AtK;exact List.decidableBEx _ _
def trF(els:List ByteArray)(d:Nat)(lv:List Int)(i:Nat):KnF:=λ k=>if AtK lv i k then some (plD els d i k.toNat)else none
theorem trF_in{els:List ByteArray}{d:Nat}{lv:List Int}{i:Nat}{k:Int}(h:AtK lv i k):trF els d lv i k=some (plD els d i k.toNat):=by unfold trF;rw[if_pos h]
theorem trF_out{els:List ByteArray}{d:Nat}{lv:List Int}{i:Nat}{k:Int}(h:¬AtK lv i k):trF els d lv i k=none:=by unfold trF;rw[if_neg h]
theorem atK_half{lv:List Int}{i:Nat}(p:Int):AtK lv (i+1) p ↔ AtK lv i (2 * p) ∨ AtK lv i (2 * p+1):=by
 have half:∀y:Int,y / 2 ^ (i+1)=y / 2 ^ i / 2:=λ y=>by
  rw[Int.pow_succ,Int.ediv_ediv_of_nonneg (Int.le_of_lt (Int.pow_pos (by decide)))]
 constructor
 ·rintro⟨y,hy,rfl⟩
  rw[half]
  by_cases e:y / 2 ^ i % 2=0
  ·exact .inl ⟨y,hy,by omega⟩
  ·exact .inr ⟨y,hy,by omega⟩
 ·rintro(⟨y,hy,e⟩ | ⟨y,hy,e⟩)
  ·exact⟨y,hy,by rw[half];omega⟩
  ·exact⟨y,hy,by rw[half];omega⟩
theorem plD_up(els:List ByteArray)(d i:Nat)(p:Nat):plD els d (i+1) p=hashP nodeT [plD els d i (2 * p),plD els d i (2 * p+1)]:=rfl
theorem row_memK(lv:List Int)(d i:Nat)(h:i<d)(k:Int):k ∈ rnth (rowsOf lv d) i ↔ AtK lv i (sib k)∧¬AtK lv i k:=by
 rw[row_mem lv d i h]
 have ss:∀x,sib (sib x)=x:=λ x=>by unfold sib;split <;> split <;> omega
 constructor
 ·rintro⟨⟨y,hy,rfl⟩,h2⟩
  exact⟨⟨y,hy,by rw[ss]⟩,h2⟩
 ·rintro⟨⟨y,hy,e⟩,h2⟩
  exact⟨⟨y,hy,by rw[←e,ss]⟩,h2⟩
theorem flat_used(rs:List (List Int)):∀i,i≤len rs→(flatAt rs i 0).length=usedR rs i
 | 0,_=>rfl
 | i+1,hi=>by rw[flat_row_len rs i (by omega),flat_used rs i (by omega),usedR_next rs i (by omega)]
theorem flat_used2(rs:List (List Int))(i:Nat)(hi:i<len rs):∀j,j≤len (rnth rs i)→(flatAt rs i j).length=usedR rs i+j
 | 0,_=>flat_used rs i (by omega)
 | j+1,hj=>by rw[flatAt_next rs i j (by omega),List.length_append,flat_used2 rs i hi j (by omega)];rfl
theorem dgs_at(els:List ByteArray)(rs:List (List Int))(i j:Nat)(hi:i<len rs)(hj:j<len (rnth rs i)):tth (dgsL els (flatLv rs)) (usedR rs i+j)=plD els (depN els) i (nth (rnth rs i) j).toNat:=by
 have h:=flat_at rs i j hi hj
 rw[flat_used2 rs i hi j (by omega)]at h
 unfold dgsL tth
 rw[List.getD_eq_getElem?_getD,List.getElem?_map,h]
 simp
theorem dgs_all(els:List ByteArray)(rs:List (List Int)):len (dgsL els (flatLv rs))=usedR rs (len rs):=by
 unfold dgsL
 rw[len_eq,List.length_map,←flatAt_end,flat_used rs (len rs) (Nat.le_refl _)]
end Go.Proofs.YtpobhbdomldecaaGreatDoor
namespace Go.Proofs.YtpobhbdomldecaaGreatDoor
open Go.RowKit
set_option linter.unusedSimpArgs false
set_option linter.unusedVariables false
theorem bad_no{ds:List ByteArray}(h:∀d ∈ ds,d.size=32):badB ds=false:=decide_eq_false (by rintro⟨d,hd,h9⟩;exact h9 (h d hd))
theorem rootE_ok{n:Int}{ps:List Int}{es ds:List ByteArray}(h1:ArgOk n ps es)(h2:badB ds=false)(h3:len ds=neededP n ps):rootE n ps es ds=0∧rootS n ps es ds=digP n ps es ds:=by
 have h9:rootE n ps es ds=0:=by
  unfold rootE
  rw[if_neg (λ h=>h h1),if_neg (by rw[h2];simp),if_neg (by omega),if_neg (by omega)]
 exact⟨h9,by unfold rootS;rw[if_pos h9]⟩
end Go.Proofs.YtpobhbdomldecaaGreatDoor
namespace Go.Proofs.YtpobhbdomldecaaGreatDoor
open Go.RowKit
set_option linter.unusedSimpArgs false
set_option linter.unusedVariables false
structure Agree(els own:List ByteArray)(ps:List Int):Prop where
 len_:len own=len els
 off:∀i:Nat,((i:Nat):Int) ∉ ps→tth els i=tth own i
theorem Agree.refl(els:List ByteArray)(ps:List Int):Agree els els ps:=⟨rfl,λ _ _=>rfl⟩
theorem plD_same{els own:List ByteArray}{d:Nat}(hl:len own=len els):∀(i k:Nat),i≤d→k<2 ^ (d - i)→(∀j,j<2 ^ d→j / 2 ^ i=k→tth els (revOf j d)=tth own (revOf j d))→plD els d i k=plD own d i k
 | 0,k,_,hk,h=>by
  have h1:=h k (by simpa using hk) (by simp)
  show(if revOf k d<len els then hashP leafT [tth els (revOf k d)]else hashP noneT [])=(if revOf k d<len own then hashP leafT [tth own (revOf k d)]else hashP noneT [])
  rw[h1,hl]
 | i+1,k,hi,hk,h=>by
  have hp:2 ^ (d - i)=2 * 2 ^ (d - (i+1)):=by rw[show d - i=d - (i+1)+1 by omega,Nat.pow_succ];omega
  have half:∀j,j / 2 ^ (i+1)=j / 2 ^ i / 2:=λ j=>by rw[Nat.pow_succ,Nat.div_div_eq_div_mul]
  rw[plD_up,plD_up,plD_same hl i (2 * k) (by omega) (by omega) (λ j hj e=>h j hj (by rw[half];omega)),plD_same hl i (2 * k+1) (by omega) (by omega) (λ j hj e=>h j hj (by rw[half];omega))]
theorem row_same{els own:List ByteArray}{ps:List Int}{d n i:Nat}{x:Int}(hd:d≤16)(hn:n≤2 ^ d)(hu:∀k ∈ ps,U64 k)(hm:MayOk n ps)(ha:Agree els own ps)(hi:i<d)(hx:x ∈ rnth (rowsOf (leavesL ps (d:Nat)) d) i):plD els d i x.toNat=plD own d i x.toNat:=by
 have h1:=(row_memK _ d i hi x).1 hx
 obtain⟨⟨y,hy,e⟩,_⟩:=(row_mem _ d i hi x).1 hx
 have hb:=leaves_in hd y hy;have h3:=half_bd hb.1 hb.2 (Nat.le_of_lt hi)
 obtain⟨q,hq⟩:∃q,d - i=q+1:=⟨d - i - 1,by omega⟩
 have h4:0≤x∧x<2 ^ (q+1):=by rw[e];rw[hq]at h3;exact sib_bd h3.1 h3.2
 obtain⟨xn,rfl⟩:=Int.eq_ofNat_of_zero_le h4.1
 refine plD_same ha.len_ i xn (by omega) (by rw[hq];have:=h4.2;rw[pow_cast]at this;omega) (λ j hj hjx=>ha.off _ (λ hp=>h1.2 ?_))
 have hk:=hu _ hp
 obtain⟨m,hml,hme⟩:=List.getElem_of_mem hp
 have hr:((revOf j d:Nat):Int)<n:=by
  have:=(hm.2 m hml).1
  rw[nth_eq ps m hml,hme]at this
  exact this
 refine⟨((j:Nat):Int),?_,?_⟩
 ·unfold leavesL
  refine List.mem_map.2 ⟨_,hp,?_⟩
  rw[turnedP_rev hd (Int.natCast_nonneg _) hr hn,Int.toNat_natCast,revOf_revOf hj]
 ·rw[pow_cast,←hjx]
  exact(Int.natCast_ediv j (2 ^ i))
theorem addF_all(g:KnF)(ks:List Int)(ds:List ByteArray)(f:Int→ByteArray):∀m,m≤len ks→(∀j,j<m→tth ds j=f (nth ks j))→∀k,addF g (ks.take m) ds k=if k ∈ ks.take m then some (f k)else g k
 | 0,_,_,k=>by simp[addF]
 | m+1,hm,h,k=>by
  have hm2:m<ks.length:=hm;have hs:ks.take (m+1)=ks.take m++[nth ks m]:=by rw[List.take_succ_eq_append_getElem hm2,nth_eq ks m hm2]
  rw[addF_take g ks ds m hm]
  by_cases e:k=nth ks m
  ·subst e
   rw[putF_same,h m (Nat.lt_succ_self m),hs,if_pos (by simp)]
  ·rw[putF_other _ _ e,addF_all g ks ds f m (by omega) (λ j hj=>h j (by omega)) k,hs]
   by_cases e2:k ∈ ks.take m
   ·rw[if_pos e2,if_pos (by simp[e2])]
   ·rw[if_neg e2,if_neg (by simp[e2,e])]
theorem addF_full(g:KnF)(ks:List Int)(ds:List ByteArray)(f:Int→ByteArray)(h:∀j,j<len ks→tth ds j=f (nth ks j))(k:Int):addF g ks ds k=if k ∈ ks then some (f k)else g k:=by
 have:=addF_all g ks ds f (len ks) (Nat.le_refl _) h k
 rw[take_len]at this
 exact this
theorem root_back{els own es:List ByteArray}{ps:List Int}{d:Nat}(hdd:depN els=d)(hd:d≤16)(hn:len els≤2 ^ d)(hu:∀k ∈ ps,U64 k)(hm:MayOk (len els:Nat) ps)(ha:Agree els own ps)
  (hel:len es=len ps) (hes:∀m,m<len ps→tth es m=tth own (nth ps m).toNat):∀i,i≤d→
  rootT (g0F (leavesL ps (d:Nat)) es) (rowsOf (leavesL ps (d:Nat)) d) (dgsL els (flatLv (rowsOf (leavesL ps (d:Nat)) d))) i=trF own d (leavesL ps (d:Nat)) i
 | 0,_=>by
  funext k
  show g0F (leavesL ps (d:Nat)) es k=_
  unfold g0F
  rw[addF_full noF _ _ (λ k=>plD own d 0 k.toNat) (λ m hm2=>?_) k]
  ·unfold trF noF
   by_cases e:k ∈ leavesL ps (d:Nat)
   ·rw[if_pos e,if_pos ⟨k,e,by simp⟩]
   ·rw[if_neg e,if_neg]
    rintro⟨y,hy,rfl⟩
    exact e (by simpa using hy)
  ·rw[leavesL_len]at hm2
   rw[leafD_at es m (by omega),hes m hm2]
   have h1:=(hm.2 m hm2).1;have h2:=(hu _ (mem_nth hm2)).1;have h3:nth (leavesL ps (d:Nat)) m=turnedZ (nth ps m) (d:Nat):=by
    have h9:m<ps.length:=hm2
    unfold leavesL nth
    simp[h9]
   rw[h3,turnedP_rev hd h2 h1 hn]
   show _=plD own d 0 (((revOf (nth ps m).toNat d:Nat):Int).toNat)
   rw[Int.toNat_natCast]
   show _=(if revOf (revOf (nth ps m).toNat d) d<len own then hashP leafT [tth own (revOf (revOf (nth ps m).toNat d) d)]else hashP noneT [])
   rw[revOf_revOf (show(nth ps m).toNat<2 ^ d by omega),if_pos (by rw[ha.len_];omega)]
 | i+1,hi=>by
  have IH:=root_back hdd hd hn hu hm ha hel hes i (by omega);have hil:i<len (rowsOf (leavesL ps (d:Nat)) d):=by rw[rowsOf_len];omega
  rw[rootT_next _ _ _ i hil,IH]
  have hH:∀k,addF (trF own d (leavesL ps (d:Nat)) i) (rnth (rowsOf (leavesL ps (d:Nat)) d) i) ((dgsL els (flatLv (rowsOf (leavesL ps (d:Nat)) d))).drop (usedR (rowsOf (leavesL ps (d:Nat)) d) i)) k=if AtK (leavesL ps (d:Nat)) i k ∨ k ∈ rnth (rowsOf (leavesL ps (d:Nat)) d) i then some (plD own d i k.toNat)else none:=λ k=>by
   rw[addF_full _ _ _ (λ k=>plD els d i k.toNat) (λ j hj=>by rw[tth_drop,dgs_at els _ i j hil hj,hdd]) k]
   by_cases e:k ∈ rnth (rowsOf (leavesL ps (d:Nat)) d) i
   ·rw[if_pos e,if_pos (.inr e),row_same hd hn hu hm ha (by omega) e]
   ·rw[if_neg e]
    by_cases e2:AtK (leavesL ps (d:Nat)) i k
    ·rw[trF_in e2,if_pos (.inl e2)]
    ·rw[trF_out e2,if_neg (λ h9=>h9.elim e2 e)]
  funext p
  by_cases hp:AtK (leavesL ps (d:Nat)) (i+1) p
  ·rw[trF_in hp]
   have hk:=(atK_half p).1 hp;have s0:sib (2 * p)=2 * p+1:=by unfold sib;split <;> omega
   have s1:sib (2 * p+1)=2 * p:=by unfold sib;split <;> omega
   have h0:AtK (leavesL ps (d:Nat)) i (2 * p) ∨ 2 * p ∈ rnth (rowsOf (leavesL ps (d:Nat)) d) i:=by
    by_cases e:AtK (leavesL ps (d:Nat)) i (2 * p)
    ·exact .inl e
    ·exact .inr ((row_memK _ d i (by omega) _).2 ⟨by rw[s0];exact hk.resolve_left e,e⟩)
   have h1:AtK (leavesL ps (d:Nat)) i (2 * p+1) ∨ 2 * p+1 ∈ rnth (rowsOf (leavesL ps (d:Nat)) d) i:=by
    by_cases e:AtK (leavesL ps (d:Nat)) i (2 * p+1)
    ·exact .inl e
    ·exact .inr ((row_memK _ d i (by omega) _).2 ⟨by rw[s1];exact hk.resolve_right e,e⟩)
   have hp0:0≤p:=by
    obtain⟨y,hy,rfl⟩:=hp
    exact Int.ediv_nonneg (leaves_in hd y hy).1 (Int.le_of_lt (Int.pow_pos (by decide)))
   rw[over_some (show prIs _ p from .inl (by rw[hH,if_pos h0];rfl))]
   unfold kidF
   rw[hH,hH,if_pos h0,if_pos h1]
   show some (hashP nodeT [plD own d i (2 * p).toNat,plD own d i (2 * p+1).toNat])=some (plD own d (i+1) p.toNat)
   rw[plD_up,show(2 * p).toNat=2 * p.toNat by omega,show(2 * p+1).toNat=2 * p.toNat+1 by omega]
  ·rw[trF_out hp]
   have hk:¬(AtK (leavesL ps (d:Nat)) i (2 * p) ∨ AtK (leavesL ps (d:Nat)) i (2 * p+1)):=λ h9=>hp ((atK_half p).2 h9)
   rw[not_or]at hk
   have s0:sib (2 * p)=2 * p+1:=by unfold sib;split <;> omega
   have s1:sib (2 * p+1)=2 * p:=by unfold sib;split <;> omega
   have n0:¬(AtK (leavesL ps (d:Nat)) i (2 * p) ∨ 2 * p ∈ rnth (rowsOf (leavesL ps (d:Nat)) d) i):=by
    rintro(h | h)
    ·exact hk.1 h
    ·exact hk.2 (by have:=((row_memK _ d i (by omega) _).1 h).1;rw[s0]at this;exact this)
   have n1:¬(AtK (leavesL ps (d:Nat)) i (2 * p+1) ∨ 2 * p+1 ∈ rnth (rowsOf (leavesL ps (d:Nat)) d) i):=by
    rintro(h | h)
    ·exact hk.2 h
    ·exact hk.1 (by have:=((row_memK _ d i (by omega) _).1 h).1;rw[s1]at this;exact this)
   have g0:=(hH (2 * p)).trans (if_neg n0);have g1:=(hH (2 * p+1)).trans (if_neg n1)
   unfold overF
   rw[g0,g1]
   simp
theorem back_root{els own es:List ByteArray}{ps:List Int}(hn:len els≤65536)(hu:∀k ∈ ps,U64 k)(hm:MayOk (len els:Nat) ps)(ha:Agree els own ps)
  (hel:len es=len ps) (hes:∀m,m<len ps→tth es m=tth own (nth ps m).toNat):
  rootE (len els:Nat) ps es (dgsL els (plcL (len els:Nat) ps))=0∧rootS (len els:Nat) ps es (dgsL els (plcL (len els:Nat) ps))=plD own (depN own) (depN own) 0:=by
 obtain⟨d,hdd⟩:∃d,depN els=d:=⟨_,rfl⟩
 have hd:d≤16:=by rw[←hdd];exact depN_le hn
 have hdz:depthZ (len els:Nat)=((d:Nat):Int):=by rw[depthZ_len hn,hdd]
 have hn2:len els≤2 ^ d:=by rw[←hdd];exact(depth_bd (len els) hn).2.1
 have hdo:depN own=d:=by unfold depN;rw[ha.len_];exact hdd
 have hrw:rowsP (len els:Nat) ps=rowsOf (leavesL ps (d:Nat)) d:=by unfold rowsP;rw[hdz,needs_rows hd hm.1]
 have hpl:plcL (len els:Nat) ps=flatLv (rowsOf (leavesL ps (d:Nat)) d):=by unfold plcL;rw[hdz,needs_rows hd hm.1]
 have hA:ArgOk (len els:Nat) ps es:=⟨⟨by omega,by omega,hm⟩,hel⟩;have hB:badB (dgsL els (plcL (len els:Nat) ps))=false:=bad_no (λ x hx=>by
  unfold dgsL at hx
  obtain⟨y,_,rfl⟩:=List.mem_map.1 hx
  exact plD_size _ _ _ _)
 have hN:len (dgsL els (plcL (len els:Nat) ps))=neededP (len els:Nat) ps:=by
  unfold neededP
  rw[hrw,hpl,dgs_all]
 have h:=rootE_ok hA hB hN
 refine⟨h.1,h.2.trans ?_⟩
 unfold digP
 rw[hrw,hpl,hdz,hdo]
 have hr:=root_back hdd hd hn2 hu hm ha hel hes d (Nat.le_refl _)
 unfold rootT at hr
 rw[List.take_of_length_le (by have:=rowsOf_len (leavesL ps (d:Nat)) d;rw[len_eq]at this;omega)]at hr
 rw[hr]
 have hk:AtK (leavesL ps (d:Nat)) d 0:=by
  have h1:0<(leavesL ps (d:Nat)).length:=by have h5:(leavesL ps (d:Nat)).length=len ps:=leavesL_len ps (d:Nat);have h6:=hm.1;omega
  refine⟨(leavesL ps (d:Nat))[0],List.getElem_mem h1,?_⟩
  have h2:=leaves_in hd _ (List.getElem_mem h1)
  exact(Int.ediv_eq_zero_of_lt h2.1 h2.2).symm
 unfold kidF
 rw[trF_in hk]
 rfl
end Go.Proofs.YtpobhbdomldecaaGreatDoor
namespace Go.Proofs.YtpobhbdomldecaaGreatDoor
open Go.RowKit Go.ChangeMaps
set_option linter.unusedSimpArgs false
set_option linter.unusedVariables false
def keysOf(L:List (Int × Value)):List Int:=L.map (·.1)
theorem keysOf_len(L:List (Int × Value)):(keysOf L).length=L.length:=by simp[keysOf]
theorem keysOf_get(L:List (Int × Value))(i:Nat)(h:i<L.length):(keysOf L)[i]'(by rw[keysOf_len];exact h)=L[i].1:=by simp[keysOf]
theorem Come.snoc{L:List (Int × Value)}{nb:Nat}{seen:Array Nat}{pre:List Int}(h:Come (keysOf L) nb seen pre)(hn:(L.map (·.1)).Nodup){i:Nat}(hi:i<L.length)(hs:¬nb+i ∈ seen):Come (keysOf L) nb (seen.push (nb+i)) (pre++[L[i].1]):=by
 have:=(h.next hn (i:=i) (by rw[keysOf_len];exact hi) hs).2
 rw[keysOf_get L i hi]at this
 exact this
theorem Come.fin{L:List (Int × Value)}{nb:Nat}{seen:Array Nat}{pre:List Int}(h:Come (keysOf L) nb seen pre)(ha:∀i,i<L.length→nb+i ∈ seen):∀k,k ∈ pre ↔ k ∈ L.map (·.1):=λ k=>by
 rw[h.2]
 constructor
 ·rintro⟨i,hi,_,e⟩;exact e ▸ List.getElem_mem hi
 ·intro hk
  obtain⟨i,hi,e⟩:=List.getElem_of_mem hk
  exact⟨i,hi,ha i (by simpa using hi),e⟩
theorem Ranging.keep{w w':World}{b r n:Nat}{q:IntKind}{l:List (Int × Value)}{seen:Array Nat}(h:Ranging w b r q n l seen)(h1:w'.heap[b]?=w.heap[b]?)(h2:w'.heap[r]?=w.heap[r]?):Ranging w' b r q n l seen:=⟨h1.trans h.map,h2.trans h.iter⟩
def KnownAt(b n:Nat)(g:KnF)(w:World):Prop:=∃L,w.heap[b]?=some (mObj .u64 n L)∧MapF L g
def KoverIs(g:KnF)(w:World)(e:Ending)(w':World):Prop:=∃b,e=.returned (.map (some b))∧KnownAt b 0 (overF g) w'∧w.heap.size≤b∧Below w.heap.size w w'
set_option maxRecDepth 100000 in
set_option maxHeartbeats 8000000 in
theorem kover_any(b n:Nat)(g:KnF)(w:World)(h:KnownAt b n g w)(hz:∀k d,g k=some d→d.size≤1000):
  Calls Tryz.prog 170 #[.map (some b)] w (KoverIs g w):=by
 obtain⟨L,hb,hm⟩:=h
 have HL:=Lib.hid hb;have HM:=Lib.hid hm;have HZ:=Lib.hid hz;have HBL:Hid (b<w.heap.size):=Lib.hid (lt_of_block hb);have hmm:=@run_makeMap Tryz.prog;clear hb hm hz
 go_enter Tryz.func170,Tryz.ntmps170
 go_upto_region 2 with fail
 clear hmm
 obtain⟨pb,hpb⟩:∃pb,w.heap.size=pb:=⟨_,rfl⟩
 obtain⟨V,hV⟩:∃V,w.alloc (Obj.map #[] 0)=V:=⟨_,rfl⟩
 have HVP:Hid (V.heap[pb]?=some (mObj .u64 0 [])):=Lib.hid (by rw[←hV];exact alloc_new_at _ hpb);have HVL:Hid (V.heap[b]?=some (mObj .u64 n L)):=Lib.hid (by rw[←hV];exact block_alloc HL.out _);have HVW:Hid (Below w.heap.size w V):=Lib.hid (by rw[←hV];exact balloc (Below.refl _ _) _);have HBP:Hid (b<pb∧w.heap.size≤pb):=Lib.hid ⟨by have:=HBL.out;omega,by omega⟩
 rw[hV,hpb]
 clear hV hpb HL
 go_wp2_with (at_range;refine wpList_range_m rfl _ 200 23 9 .u64 rfl Tryz.underlying200 b n _ rfl HVL.out ?_;intro hrg)
 go_frame
 obtain⟨r,hr⟩:∃r,V.heap.size=r:=⟨_,rfl⟩
 obtain⟨U,hU⟩:∃U,V.alloc (.mapIter (some b) (n+L.length) #[] (n+L.length))=U:=⟨_,rfl⟩
 rw[hr,hU]at hrg ⊢
 have HR:=Lib.hid hrg;have HUP:Hid (U.heap[pb]?=some (mObj .u64 0 [])):=Lib.hid (by rw[←hU];exact block_alloc HVP.out _);have HUW:Hid (Below w.heap.size w U):=Lib.hid (by rw[←hU];exact balloc HVW.out _);have HRP:Hid (pb<r):=Lib.hid (by rw[←hr];exact lt_of_block HVP.out);clear hU hr hrg HVL HVP HVW
 go_loopw [4,5,6] (λ _ _ _ wr=>∃(seen:Array Nat) (pre:List Int) (QL:List (Int × Value)),Hid (Ranging wr b r .u64 n L seen)∧Hid (Come (keysOf L) n seen pre)∧Hid (wr.heap[pb]?=some (mObj .u64 0 QL))∧Hid (PairF QL (resF g pre))∧Hid (Below w.heap.size w wr)) (λ _ _ _ wr=>rLeft wr r (n+L.length))
 case atStart=>exact⟨#[],[],[],HR,Lib.hid (Come.start _ _),HUP,Lib.hid (by rw[resF_nil];exact PairF.nil),HUW⟩
 case round=>
  clear HR HUP HUW
  obtain⟨seen,pre,QL,HR,HC,HP,HF,HW⟩:=hrel
  go_wp2_with (at_next;refine wpList_next_m rfl _ rfl b r .u64 n _ seen rfl HR.out ?_ ?_)
  ·intro hall
   have HALL:=Lib.hid hall;clear hall;have HQA:Hid (PairF QL g):=Lib.hid (by
    have h1:=HF.out
    rw[resF_all (g:=g) (pre:=pre) (λ k hk=>(HC.out.fin HALL.out k).2 (HM.out.keys hk))]at h1
    exact h1)
   clear HALL HC HF HR;have hmm:=@run_makeMap Tryz.prog
   go_upto_region 9 with fail
   clear hmm
   obtain⟨ob,hob⟩:∃ob,wr.heap.size=ob:=⟨_,rfl⟩
   obtain⟨V,hV⟩:∃V,wr.alloc (Obj.map #[] 0)=V:=⟨_,rfl⟩
   have HVO:Hid (V.heap[ob]?=some (mObj .u64 0 [])):=Lib.hid (by rw[←hV];exact alloc_new_at _ hob);have HVP:Hid (V.heap[pb]?=some (mObj .u64 0 QL)):=Lib.hid (by rw[←hV];exact block_alloc HP.out _);have HVW:Hid (Below w.heap.size w V):=Lib.hid (by rw[←hV];exact balloc HW.out _);have HOP:Hid (pb<ob∧w.heap.size≤ob):=Lib.hid ⟨by rw[←hob];exact lt_of_block HP.out,by rw[←hob];exact HW.out.size⟩
   rw[hV,hob]
   clear hV hob HP HW
   obtain⟨zn,hzn⟩:∃zn:Nat,0=zn:=⟨_,rfl⟩
   have HVP:=Lib.hid (by have h:=HVP.out;rw[hzn]at h;exact h);clear hzn
   go_wp2_with (at_range;refine wpList_range_m rfl _ 263 23 265 .u64 rfl Tryz.underlying263 pb zn _ rfl HVP.out ?_;intro hrg)
   go_frame
   obtain⟨r2,hr2⟩:∃r2,V.heap.size=r2:=⟨_,rfl⟩
   obtain⟨U2,hU2⟩:∃U2,V.alloc (.mapIter (some pb) (zn+QL.length) #[] (zn+QL.length))=U2:=⟨_,rfl⟩
   rw[hr2,hU2]at hrg ⊢
   have HR:=Lib.hid hrg;have HUO:Hid (U2.heap[ob]?=some (mObj .u64 0 [])):=Lib.hid (by rw[←hU2];exact block_alloc HVO.out _);have HUW:Hid (Below w.heap.size w U2):=Lib.hid (by rw[←hU2];exact balloc HVW.out _);have HRO:Hid (ob<r2):=Lib.hid (by rw[←hr2];exact lt_of_block HVO.out);clear hU2 hr2 hrg HVO HVP HVW
   go_loopw [8,9] (λ _ _ wr=>∃(seen:Array Nat) (pre:List Int) (OL:List (Int × Value)),Hid (Ranging wr pb r2 .u64 zn QL seen)∧Hid (Come (keysOf QL) zn seen pre)∧Hid (wr.heap[ob]?=some (mObj .u64 0 OL))∧Hid (MapF OL (resF (overF g) pre))∧Hid (Below w.heap.size w wr)) (λ _ _ wr=>rLeft wr r2 (zn+QL.length))
   case atStart=>exact⟨#[],[],[],HR,Lib.hid (Come.start _ _),HUO,Lib.hid (by rw[resF_nil];exact MapF.nil),HUW⟩
   case round=>
    clear HR HUO HUW
    obtain⟨seen,pre,OL,HR,HC,HO,HF,HW⟩:=hrel
    go_wp2_with (at_next;refine wpList_next_m rfl _ rfl pb r2 .u64 zn _ seen rfl HR.out ?_ ?_)
    ·intro hall
     have HALL:=Lib.hid hall;clear hall;have HOA:Hid (MapF OL (overF g)):=Lib.hid (by
      have h1:=HF.out
      rw[resF_all (g:=overF g) (pre:=pre) (λ k hk=>(HC.out.fin HALL.out k).2 (HQA.out.keys hk))]at h1
      exact h1)
     clear HALL HC HF HR
     go_wp2
     go_ret
     exact⟨ob,rfl,⟨OL,HO.out,HOA.out⟩,HOP.out.2,HW.out⟩
    ·intro i hi w1 hns hr1 hlt hb1 hsz hoth hen
     have HR1:=Lib.hid hr1;have HRX9:=Lib.hid hr1;have HLT:=Lib.hid hlt;have HC1:Hid (Come (keysOf QL) zn (seen.push (zn+i)) (pre++[QL[i].1])):=Lib.hid (HC.out.snoc HQA.out.nodup hi hns);have HO1:Hid (w1.heap[ob]?=some (mObj .u64 0 OL)):=Lib.hid ((hoth ob (by have:=HRO.out;omega)).trans HO.out);have HW1:Hid (Below w.heap.size w w1):=Lib.hid (HW.out.trans (hb1 _ (by have:=HRO.out;have:=HOP.out;omega)))
     obtain⟨hd,hpi⟩:=HQA.out.at i hi
     have hku:=HQA.out.u64 _ (List.getElem_mem hi)
     obtain⟨k,hk⟩:∃k,QL[i].1=k:=⟨_,rfl⟩
     rw[hk]at hku hen HC1 hd hpi ⊢
     obtain⟨x0,hx0⟩:∃x0,kidF g (2 * k)=x0:=⟨_,rfl⟩
     obtain⟨x1,hx1⟩:∃x1,kidF g (2 * k+1)=x1:=⟨_,rfl⟩
     have hd2:QL[i].2=.agg #[.string x0,.string x1]:=by rw[hd,←hx0,←hx1];rfl
     rw[hd2]at hen ⊢
     have hov:overF g k=some (hashP nodeT [x0,x1]):=by rw[←hx0,←hx1];exact over_some hpi
     have HOV:=Lib.hid hov;have HKU:=Lib.hid hku;have HXZ:Hid (x0.size≤1000000∧x1.size≤1000000):=Lib.hid (by
      have hkz:∀j,(kidF g j).size≤1000000:=λ j=>by
       unfold kidF
       cases hg:g j with
       | none=>show(0:Nat)≤_;omega
       | some d=>have:=HZ.out j d hg;show d.size≤_;omega
      rw[←hx0,←hx1]
      exact⟨hkz _,hkz _⟩)
     clear hd hd2 hku hk hns hr1 hlt hb1 hsz hoth hx0 hx1 hov hpi
     go_upto_region 12 with fail
     obtain⟨q,hq⟩:∃q,w1.heap.size=q:=⟨_,rfl⟩
     obtain⟨X,hX⟩:∃X,w1.alloc (Obj.cells #[.string x0,.string x1] 265)=X:=⟨_,rfl⟩
     have HQ0:Hid (X.heap[q]?=some (.cells #[.string x0,.string x1] 265 (0,0))):=Lib.hid (by rw[←hX];exact alloc_new_at _ hq);have HRX:Hid (Ranging X pb r2 .u64 zn QL (seen.push (zn+i))):=Lib.hid (HR1.out.keep (by rw[←hX];exact Below.heap_alloc _ _ _ (lt_of_block HR1.out.map)) (by rw[←hX];exact Below.heap_alloc _ _ _ (lt_of_block HR1.out.iter)));have HOX:Hid (X.heap[ob]?=some (mObj .u64 0 OL)):=Lib.hid (by rw[←hX];exact block_alloc HO1.out _);have HWX:Hid (Below w.heap.size w X):=Lib.hid (by rw[←hX];exact balloc HW1.out _)
     rw[hq,hX]
     clear hq hX HR1 HO1 HW1 HR HC HO HW;have c0:X.cell? ⟨q,0,none⟩=some (.string x0):=by rw[block_cell HQ0.out];rfl
     have c1:X.cell? ⟨q,1,none⟩=some (.string x1):=by rw[block_cell HQ0.out];rfl
     have c2:q<X.heap.size:=lt_of_block HQ0.out
     go_wp2_with fail
     clear c0 c1 c2
     refine(hash2_any nodeT x0 x1 X (by decide) (by decide) HXZ.out.1 HXZ.out.2).mono ?_
     rintro e w' ⟨rfl,hXd⟩
     have HRZ:Hid (Ranging w' pb r2 .u64 zn QL (seen.push (zn+i))):=Lib.hid (HRX.out.keep (hXd.block _ (lt_of_block HRX.out.map)) (hXd.block _ (lt_of_block HRX.out.iter)));have HOZ:Hid (w'.heap[ob]?=some (mObj .u64 0 OL)):=Lib.hid ((hXd.block _ (lt_of_block HOX.out)).trans HOX.out);have HWZ:Hid (Below w.heap.size w w'):=Lib.hid (bnext HWX.out hXd)
     obtain⟨D,hD⟩:∃D,hashP nodeT [x0,x1]=D:=⟨_,rfl⟩
     rw[hD]at HOV ⊢
     clear hXd HRX HOX HWX HQ0 hD
     go_wp2_with (at_mapUpdate;refine wpList_mapUpdate_m rfl _ _ _ 200 23 9 .u64 rfl Tryz.underlying200 Tryz.underlying23 ob 0 _ rfl HOZ.out _ _ rfl rfl ?_)
     have HPP:Hid ((setBlock w' ob (mObj .u64 0 (mPut OL k (.string D)))).heap[ob]?=some (mObj .u64 0 (mPut OL k (.string D)))):=Lib.hid (setBlock_same HOZ.out);have HFF:Hid (MapF (mPut OL k (.string D)) (resF (overF g) (pre++[k]))):=Lib.hid (by
      rw[resF_snoc pre HOV.out]
      exact HF.out.put _ D HKU.out)
     have HRR:Hid (Ranging (setBlock w' ob (mObj .u64 0 (mPut OL k (.string D)))) pb r2 .u64 zn QL (seen.push (zn+i))):=Lib.hid (HRZ.out.keep (setBlock_other (by have:=HOP.out;omega)) (setBlock_other (by have:=HRO.out;omega)));have HWW:Hid (Below w.heap.size w (setBlock w' ob (mObj .u64 0 (mPut OL k (.string D))))):=Lib.hid (setBlock_below HWZ.out HOP.out.2);have HLL:Hid (rLeft (setBlock w' ob (mObj .u64 0 (mPut OL k (.string D)))) r2 (zn+QL.length)<rLeft wr r2 (zn+QL.length)):=Lib.hid (by have:=HLT.out;rw[HRX9.out.left]at this;rw[HRR.out.left];exact this)
     go_roundw
     case rel=>
      (repeat apply Exists.intro)
      exact⟨⟨_,_,_,HRR,HC1,HPP,HFF,HWW⟩,rfl⟩
     case measure=>exact HLL.out
  ·intro i hi w1 hns hr1 hlt hb1 hsz hoth hen
   have HR1:=Lib.hid hr1;have HRX9:=Lib.hid hr1;have HLT:=Lib.hid hlt;have HC1:Hid (Come (keysOf L) n (seen.push (n+i)) (pre++[L[i].1])):=Lib.hid (HC.out.snoc HM.out.nodup hi hns);have HP1:Hid (w1.heap[pb]?=some (mObj .u64 0 QL)):=Lib.hid ((hoth pb (by have:=HRP.out;omega)).trans HP.out);have HW1:Hid (Below w.heap.size w w1):=Lib.hid (HW.out.trans (hb1 _ (by have:=HRP.out;have:=HBP.out;omega)))
   obtain⟨d,hd,hg⟩:=HM.out.at i hi
   have hku:=HM.out.u64 _ (List.getElem_mem hi)
   obtain⟨k,hk⟩:∃k,L[i].1=k:=⟨_,rfl⟩
   obtain⟨kn,rfl⟩:∃kn:Nat,k=(kn:Nat):=⟨k.toNat,by unfold U64 at hku;omega⟩
   rw[hk]at hg hku hen HC1 ⊢
   rw[hd]at hen ⊢
   have HG:=Lib.hid hg;have hk1:kn<18446744073709551616:=by unfold U64 at hku;omega
   have HKU:=Lib.hid hku;clear hd hg hku hk hns hr1 hlt hb1 hsz hoth
   obtain⟨y,hy⟩:∃y,kn % 2=y:=⟨_,rfl⟩
   have s3:bits .and .u64 ((kn:Nat):Int) 1=((y:Nat):Int):=by
    rw[show(1:Int)=((1:Nat):Int)from rfl,u64_and_nat _ _ hk1 (by omega),Nat.and_one_is_mod,hy]
   have HPA:Hid (∀w9,Calls Tryz.prog 228 #[.int .u64 ((kn:Nat):Int)] w9 λ e w'=>e=.returned (.int .u64 (((kn:Nat):Int) / 2))∧w9=w'):=Lib.hid (λ w9=>(parent_any ((kn:Nat):Int) w9 (by omega) (by omega)).mono (λ e w' h9=>⟨h9.1,h9.2.symm⟩))
   go_wp2_with fail
   refine(HPA.out w1).mono ?_
   rintro e w2 ⟨rfl,rfl⟩
   obtain⟨ph,hph⟩:∃ph:Int,((kn:Nat):Int) / 2=ph:=⟨_,rfl⟩
   have HPH:=Lib.hid hph
   obtain⟨x0,hx0⟩:∃x0,kidF (resF g pre) (2 * ph)=x0:=⟨_,rfl⟩
   obtain⟨x1,hx1⟩:∃x1,kidF (resF g pre) (2 * ph+1)=x1:=⟨_,rfl⟩
   have HLK:Hid ((mGet QL ph).getD (.agg #[.string ⟨#[]⟩,.string ⟨#[]⟩])=.agg #[.string x0,.string x1]):=Lib.hid (by rw[←hx0,←hx1];exact HF.out.look ph);have HX0:=Lib.hid hx0;have HX1:=Lib.hid hx1
   rw[hph]at HPA ⊢
   clear hph hx0 hx1
   go_upto_region 6 with(at_lookup;refine wpList_lookup_m rfl _ _ 263 23 265 .u64 rfl Tryz.underlying263 Tryz.underlying23 (.agg #[.string ⟨#[]⟩,.string ⟨#[]⟩]) (Tryz.zeroValue265 _) pb 0 _ rfl HP1.out _ rfl ?_;rw[HLK.out])
   obtain⟨q,hq⟩:∃q,w1.heap.size=q:=⟨_,rfl⟩
   obtain⟨X,hX⟩:∃X,w1.alloc (Obj.cells #[.string x0,.string x1] 265)=X:=⟨_,rfl⟩
   have HQ0:Hid (X.heap[q]?=some (.cells #[.string x0,.string x1] 265 (0,0))):=Lib.hid (by rw[←hX];exact alloc_new_at _ hq);have HRX:Hid (Ranging X b r .u64 n L (seen.push (n+i))):=Lib.hid (HR1.out.keep (by rw[←hX];exact Below.heap_alloc _ _ _ (lt_of_block HR1.out.map)) (by rw[←hX];exact Below.heap_alloc _ _ _ (lt_of_block HR1.out.iter)));have HPX:Hid (X.heap[pb]?=some (mObj .u64 0 QL)):=Lib.hid (by rw[←hX];exact block_alloc HP1.out _);have HWX:Hid (Below w.heap.size w X):=Lib.hid (by rw[←hX];exact balloc HW1.out _);have HQL:Hid (r<q∧b<q∧pb<q):=Lib.hid ⟨by rw[←hq];exact lt_of_block HR1.out.iter,by rw[←hq];exact lt_of_block HR1.out.map,by rw[←hq];exact lt_of_block HP1.out⟩
   rw[hq,hX]
   clear hq hX HR1 HP1 HW1 HR HC HP HW;have hy2:y<2:=by omega
   obtain⟨v0,hv0⟩:∃v0,(#[Value.string x0,.string x1]:Array Value)[y]?=some v0:=by
    rcases(by omega:y=0 ∨ y=1)with rfl | rfl <;> exact⟨_,rfl⟩
   have c0:X.cell? ⟨q,y,none⟩=some v0:=by rw[block_cell HQ0.out,hv0]
   have c1:X.frozen? ⟨q,y,none⟩=false:=block_free HQ0.out y;have c2:q<X.heap.size:=lt_of_block HQ0.out;have b1:¬2≤y:=by omega
   have b2:¬(2:Int)≤(y:Int):=by omega
   obtain⟨z0,hz0⟩:∃z0,(if y=0 then d else x0)=z0:=⟨_,rfl⟩
   obtain⟨z1,hz1⟩:∃z1,(if y=0 then x1 else d)=z1:=⟨_,rfl⟩
   have HZS:Hid ((#[Value.string x0,.string x1]:Array Value).setIfInBounds y (.string d)=#[.string z0,.string z1]):=Lib.hid (by
    rw[←hz0,←hz1]
    rcases(by omega:y=0 ∨ y=1)with rfl | rfl <;> rfl)
   have HZP:Hid (prPut (resF g pre) ((kn:Nat):Int) d=.agg #[.string z0,.string z1]):=Lib.hid (by
    unfold prPut
    rw[HPH.out,HX0.out,HX1.out,←hz0,←hz1]
    rcases(by omega:y=0 ∨ y=1)with rfl | rfl
    ·rw[if_pos (show((kn:Nat):Int) % 2=0 by omega)];rfl
    ·rw[if_neg (show ¬((kn:Nat):Int) % 2=0 by omega)];rfl)
   clear hv0 hy hy2 hz0 hz1
   go_upto_region 7 with fail
   clear c0 c1 c2 b1 b2 s3
   obtain⟨Y,hY⟩:∃Y,X.setCell ⟨q,y,none⟩ (.string d)=Y:=⟨_,rfl⟩
   have HQB:Hid (Y.heap[q]?=some (.cells #[.string z0,.string z1] 265 (0,0))):=Lib.hid (by rw[←hY,←HZS.out];exact block_setCell HQ0.out _);have HRY:Hid (Ranging Y b r .u64 n L (seen.push (n+i))):=Lib.hid (HRX.out.keep (by rw[←hY];exact Below.heap_setCell _ _ _ _ (show b≠q by have:=HQL.out;omega)) (by rw[←hY];exact Below.heap_setCell _ _ _ _ (show r≠q by have:=HQL.out;omega)));have HPY:Hid (Y.heap[pb]?=some (mObj .u64 0 QL)):=Lib.hid (by rw[←hY];exact(Below.heap_setCell _ _ _ _ (show pb≠q by have:=HQL.out;omega)).trans HPX.out);have HWY:Hid (Below w.heap.size w Y):=Lib.hid (by rw[←hY];exact bset HWX.out (show w.heap.size≤q by have:=HQL.out;have:=HBP.out;omega) _)
   rw[hY]
   clear hY HQ0 HRX HPX HWX HZS;have HPB:Hid (∀w9,Calls Tryz.prog 228 #[.int .u64 ((kn:Nat):Int)] w9 λ e w'=>e=.returned (.int .u64 ph)∧Below w9.heap.size w9 w'):=Lib.hid (λ w9=>(HPA.out w9).mono (λ e w' h9=>⟨h9.1,by rw[←h9.2];exact Below.refl _ _⟩));have HI2:Hid ((Tryz.prog.info? 265).map (·.size)=some (#[Value.string z0,.string z1]:Array Value).size):=Lib.hid (by kernel_rfl)
   refine wp_region_tail 4 1000 (none) (phis (List.map qv [.map (some pb),.int .u64 (kn:Nat),.int .u64 ph,.agg #[.string z0,.string z1]])) rfl (by kernel_rfl) (by kernel_rfl) (mono_of mono_qv) (steps_of 4 ⟨?s0,?s1,?s2,?s3,trivial⟩) ?_
   case s0=>
    refine qV (λ _=>rfl) rfl λ av wv hE hO hD=>?_
    simp[go_sem,qF av 3 (.map (some pb)) (hO.2.2 3 rfl)]
   case s1=>
    refine qV (λ _=>rfl) rfl λ av wv hE hO hD=>?_
    simp[go_sem,qF av 4 (.int .u64 (kn:Nat)) (hO.2.2 4 rfl)]
   case s2=>
    refine step_wp (λ av wv hE hS hO hD=>⟨rfl,?_⟩)
    have f27:=qE (hD.1 rfl _ rfl)
    refine wp_of_call (v:=.int .u64 ph) (by simp[go_sem,f27]) (HPB.out wv) (λ w2 hb=>⟨_,rfl,es_of_ext hb,rfl⟩)
   case s3=>
    refine step_wp (λ av wv hE hS hO hD=>⟨rfl,?_⟩)
    have h6:av.eval (.tmp 6)=(.pointer (some ⟨q,0,none⟩)):=hO.2.2 6 rfl
    exact wp_load_row 265 _ rfl q h6 265 #[.string z0,.string z1] (0,0) _ (extB_block hE (by simp) HQB.out) Tryz.underlying265 rfl HI2.out ⟨_,rfl,es_of_ext (Ext_refl _),rfl⟩
   intro a' w' hE hO hall
   have hA:=act_of_outer (ds:=[26,27,28,29]) rfl hO (by kernel_rfl)
   obtain⟨j0,j1,j2,j3,-⟩:=hall
   simp only[List.foldl_cons,List.foldl_nil,Act.put,List.setIfInBounds_toArray,List.set_cons_succ,List.set_cons_zero,qJ 26 (j0 _ rfl),qJ 27 (j1 _ rfl),qJ 28 (j2 _ rfl),qJ 29 (j3 _ rfl)]at hA
   clear hO j0 j1 j2 j3
   subst hA
   have hXd:=of_drew hE;have HRZ:Hid (Ranging w' b r .u64 n L (seen.push (n+i))):=Lib.hid (HRY.out.keep (hXd.block _ (lt_of_block HRY.out.map)) (hXd.block _ (lt_of_block HRY.out.iter)));have HPZ:Hid (w'.heap[pb]?=some (mObj .u64 0 QL)):=Lib.hid ((hXd.block _ (lt_of_block HPY.out)).trans HPY.out);have HWZ:Hid (Below w.heap.size w w'):=Lib.hid (bnext HWY.out hXd);clear hE hXd HPB HI2 HQB HRY HPY HWY
   simp only[List.drop_succ_cons,List.drop_zero]
   go_wp2_with (at_mapUpdate;refine wpList_mapUpdate_m rfl _ _ _ 263 23 265 .u64 rfl Tryz.underlying263 Tryz.underlying23 pb 0 _ rfl HPZ.out _ _ rfl rfl ?_)
   have HPP:Hid ((setBlock w' pb (mObj .u64 0 (mPut QL ph (.agg #[.string z0,.string z1])))).heap[pb]?=some (mObj .u64 0 (mPut QL ph (.agg #[.string z0,.string z1])))):=Lib.hid (setBlock_same HPZ.out);have HFF:Hid (PairF (mPut QL ph (.agg #[.string z0,.string z1])) (resF g (pre++[((kn:Nat):Int)]))):=Lib.hid (by
    rw[resF_snoc pre HG.out,←HZP.out,←HPH.out]
    exact HF.out.put _ d HKU.out)
   have HRR:Hid (Ranging (setBlock w' pb (mObj .u64 0 (mPut QL ph (.agg #[.string z0,.string z1])))) b r .u64 n L (seen.push (n+i))):=Lib.hid (HRZ.out.keep (setBlock_other (by have:=HBP.out;omega)) (setBlock_other (by have:=HRP.out;omega)));have HWW:Hid (Below w.heap.size w (setBlock w' pb (mObj .u64 0 (mPut QL ph (.agg #[.string z0,.string z1]))))):=Lib.hid (setBlock_below HWZ.out HBP.out.2);have HLL:Hid (rLeft (setBlock w' pb (mObj .u64 0 (mPut QL ph (.agg #[.string z0,.string z1])))) r (n+L.length)<rLeft wr r (n+L.length)):=Lib.hid (by have:=HLT.out;rw[HRX9.out.left]at this;rw[HRR.out.left];exact this)
   go_roundw
   case rel=>
    (repeat apply Exists.intro)
    exact⟨⟨_,_,_,HRR,HC1,HPP,HFF,HWW⟩,rfl⟩
   case measure=>exact HLL.out
end Go.Proofs.YtpobhbdomldecaaGreatDoor
namespace Go.Proofs.YtpobhbdomldecaaGreatDoor
open Go.RowKit Go.ChangeMaps
set_option linter.unusedSimpArgs false
set_option linter.unusedVariables false
set_option maxRecDepth 100000 in
set_option maxHeartbeats 4000000 in
theorem proot_arg(n:Int)(ps:List Int)(es ds:List ByteArray)(pa ea da:Option Addr)(pc ec dc:Nat)(w:World)(hp:U64s w pa ps)(hl:len ps≤100)(h0:-9223372036854775808≤n)(h1:n≤9223372036854775807)(hb:¬ArgOk n ps es)(hle:len es≤1000000):
  Calls Tryz.prog 102 #[.int .i64 n,.slice pa (len ps) pc,.slice ea (len es) ec,.slice da (len ds) dc] w (RootIs n ps es ds w):=by
 have HE:Hid (rootE n ps es ds=2∧rootS n ps es ds=⟨#[]⟩):=Lib.hid (by
  have h9:rootE n ps es ds=2:=by unfold rootE;rw[if_pos hb]
  exact⟨h9,by unfold rootS;rw[h9];rfl⟩)
 have HM:=Lib.hid (λ w9 hb9=>pmay_any n ps pa pc w9 (hp.below hb9) (by omega) h0 h1)
 by_cases hs:SizeOk n ps
 ·have hne:¬len es=len ps:=λ h9=>hb ⟨hs,h9⟩
  have z1:¬((len es:Nat):Int)=((len ps:Nat):Int):=by omega
  rw[decide_eq_true hs]at HM
  clear hb hs hp hl h0 h1 hne hle
  go_enter Tryz.func102,Tryz.ntmps102
  go_wp2_with fail
  refine(HM.out _ (balloc (Below.refl _ _) _)).mono ?_
  rintro e w1 ⟨rfl,hb1⟩
  have HB1:Hid (Below w.heap.size w w1):=Lib.hid (bnext (balloc (Below.refl _ _) _) hb1);clear hb1
  go_wp2
  go_ret2
  exact⟨by rw[HE.out.1,HE.out.2];rfl,HB1.out⟩
 ·rw[decide_eq_false hs]at HM
  clear hb hs hp hl h0 h1 hle
  go_enter Tryz.func102,Tryz.ntmps102
  go_wp2_with fail
  refine(HM.out _ (balloc (Below.refl _ _) _)).mono ?_
  rintro e w1 ⟨rfl,hb1⟩
  have HB1:Hid (Below w.heap.size w w1):=Lib.hid (bnext (balloc (Below.refl _ _) _) hb1);clear hb1
  go_wp2
  go_ret2
  exact⟨by rw[HE.out.1,HE.out.2];rfl,HB1.out⟩
set_option maxRecDepth 100000 in
set_option maxHeartbeats 4000000 in
theorem proot_form(n:Int)(ps:List Int)(es ds:List ByteArray)(pa ea da:Option Addr)(pc ec dc:Nat)(w:World)(hp:U64s w pa ps)(hd:Txts w da ds)(hl:len ps≤100)(hld:len ds≤1000000)(h0:-9223372036854775808≤n)(h1:n≤9223372036854775807)(hb:ArgOk n ps es)(hbad:badB ds=true):
  Calls Tryz.prog 102 #[.int .i64 n,.slice pa (len ps) pc,.slice ea (len es) ec,.slice da (len ds) dc] w (RootIs n ps es ds w):=by
 have HE:Hid (rootE n ps es ds=5∧rootS n ps es ds=⟨#[]⟩):=Lib.hid (by
  have h9:rootE n ps es ds=5:=by unfold rootE;rw[if_neg (λ h=>h hb),if_pos hbad]
  exact⟨h9,by unfold rootS;rw[h9];rfl⟩)
 have HM:=Lib.hid (λ w9 hb9=>pmay_any n ps pa pc w9 (hp.below hb9) (by omega) h0 h1)
 rw[decide_eq_true hb.1]at HM
 have hel:=hb.2;have HBD:=Lib.hid (λ w9 hb9=>bad_any da dc ds w9 (hd.below hb9) (by omega))
 rw[hbad]at HBD
 clear hb hp hl h0 h1 hbad hld hd
 go_enter Tryz.func102,Tryz.ntmps102
 rw[hel]
 go_upto_region 1 with fail
 obtain⟨pb,hpb⟩:∃pb,w.heap.size=pb:=⟨_,rfl⟩
 obtain⟨V,hV⟩:∃V,w.alloc (.cells #[.slice da (len ds) dc] 36)=V:=⟨_,rfl⟩
 have HVP:Hid (V.heap[pb]?=some (.cells #[.slice da (len ds) dc] 36 (0,0))):=Lib.hid (by rw[←hV];exact alloc_new_at _ hpb);have HVW:Hid (Below w.heap.size w V):=Lib.hid (by rw[←hV];exact balloc (Below.refl _ _) _)
 rw[hpb,hV]
 clear hV hpb
 go_wp2_with fail
 refine(HM.out _ HVW.out).mono ?_
 rintro e w1 ⟨rfl,hb1⟩
 have HP1:Hid (w1.heap[pb]?=some (.cells #[.slice da (len ds) dc] 36 (0,0))):=Lib.hid ((hb1.block _ (lt_of_block HVP.out)).trans HVP.out);have HB1:Hid (Below w.heap.size w w1):=Lib.hid (bnext HVW.out hb1);clear hb1;have c0:w1.cell? ⟨pb,0,none⟩=some (.slice da (len ds) dc):=by rw[block_cell HP1.out];rfl
 have c2:pb<w1.heap.size:=lt_of_block HP1.out
 go_wp2_with fail
 refine(HBD.out w1 HB1.out).mono ?_
 rintro e w2 ⟨rfl,rfl⟩
 clear c0 c2
 go_wp2
 go_ret2
 exact⟨by rw[HE.out.1,HE.out.2];rfl,HB1.out⟩
end Go.Proofs.YtpobhbdomldecaaGreatDoor
namespace Go.Proofs.YtpobhbdomldecaaGreatDoor
open Go.RowKit Go.ChangeMaps
set_option linter.unusedSimpArgs false
set_option linter.unusedVariables false
def NextIs(pb:Nat)(a:Option Addr)(ds:List ByteArray)(w:World)(e:Ending)(w':World):Prop:=∃a' c',e=.returned (.string (tth ds 0))∧w'=w.setCell ⟨pb,0,none⟩ (.slice a' (len ds - 1) c')∧len ds - 1≤c'∧(∀w9,Txts w9 a ds→Txts w9 a' (ds.drop 1))
theorem txts_drop1{w:World}{b off:Nat}{ds:List ByteArray}(h:Txts w (some ⟨b,off,none⟩) ds):Txts w (some ⟨b,off+1,none⟩) (ds.drop 1):=λ i hi=>by
 have h1:i<(ds.drop 1).length:=hi
 rw[List.length_drop]at h1
 obtain⟨b2,off2,e,hc⟩:=h (i+1) (by omega:i+1<ds.length)
 cases e
 refine⟨b,off+1,rfl,?_⟩
 rw[tth_drop,Nat.add_assoc,Nat.add_comm 1 i]
 exact hc
theorem nextd_any(pb:Nat)(a:Option Addr)(c:Nat)(ds:List ByteArray)(w:World)(hb:w.heap[pb]?=some (.cells #[.slice a (len ds) c] 36 (0,0)))(ht:Txts w a ds)(h0:0<len ds)(hc:len ds≤c):
  Calls Tryz.prog 169 #[.pointer (some ⟨pb,0,none⟩)] w (NextIs pb a ds w):=by
 obtain⟨b,off,rfl,hcell⟩:=ht 0 h0
 have c0:w.cell? ⟨pb,0,none⟩=some (.slice (some ⟨b,off,none⟩) (len ds) c):=by rw[block_cell hb];rfl
 have c1:w.frozen? ⟨pb,0,none⟩=false:=block_free hb 0;have c2:pb<w.heap.size:=lt_of_block hb;have l1:=lt_of_cell hcell;have z0:(0:Int)<(len ds:Int):=by omega
 have z1:¬len ds≤0:=by omega
 rw[Nat.add_zero]at hcell
 clear hb ht
 go_enter Tryz.func169,Tryz.ntmps169
 go_wp2_with fail
 ·skip
  go_ret
  refine⟨_,_,rfl,rfl,by omega,λ w9 h9=>?_⟩
  rw[show ds.drop 1=[]from List.drop_eq_nil_of_le (by have:len ds=ds.length:=rfl;omega)]
  exact Txts.nil _ _
 ·skip
  go_ret
  exact⟨_,_,rfl,rfl,by omega,λ w9 h9=>txts_drop1 h9⟩
end Go.Proofs.YtpobhbdomldecaaGreatDoor
namespace Go.Proofs.YtpobhbdomldecaaGreatDoor
open Go.RowKit Go.ChangeMaps
set_option linter.unusedSimpArgs false
set_option linter.unusedVariables false
theorem leaves_nth(ps:List Int)(d:Int)(m:Nat)(h:m<len ps):nth (leavesL ps d) m=turnedZ (nth ps m) d:=by
 have h2:m<ps.length:=h
 unfold leavesL nth
 simp[h2]
structure LvAt(mb:Nat)(g:KnF)(w:World):Prop where
 at_:KnownAt mb 0 g w
 small:SmF g
theorem LvAt.keep{mb:Nat}{g:KnF}{w w':World}(h:LvAt mb g w)(hk:w'.heap[mb]?=w.heap[mb]?):LvAt mb g w':=by
 obtain⟨⟨L,h1,h2⟩,h3⟩:=h
 exact⟨⟨L,hk.trans h1,h2⟩,h3⟩
theorem LvAt.lt{mb:Nat}{g:KnF}{w:World}(h:LvAt mb g w):mb<w.heap.size:=by
 obtain⟨⟨L,h1,h2⟩,h3⟩:=h
 exact lt_of_block h1
theorem own_keeps{wr W4:World}{T:TypeId}{base b n size:Nat}{v:Value}{xs:List Value}(h:wr.ownsRow base T size v n xs)(hg:wr.grownBy W4 v.ownBlock)(hb:b<base)(hl:b<wr.heap.size):W4.heap[b]?=wr.heap[b]?:=
 hg.block b hl (λ e=>by have:=(h.lt b e.symm).1;omega)
theorem take_snoc_nth{l:List Int}{m:Nat}(h:m<len l):l.take (m+1)=l.take m++[nth l m]:=by
 have h2:m<l.length:=h
 rw[List.take_succ_eq_append_getElem h2,nth_eq l m h2]
theorem own_setBlock{w:World}{base n:Nat}{T:TypeId}{size:Nat}{v:Value}{xs:List Value}{p:Nat}(h:w.ownsRow base T size v n xs)(hp:p<base)(o:Obj):(setBlock w p o).ownsRow base T size v n xs:=by
 refine⟨h.1,?_⟩
 rcases h.2 with h2 | ⟨g,cap,cur,rfl,hg,hgb,h3⟩
 ·exact .inl h2
 ·exact .inr ⟨g,cap,cur,rfl,hg,(setBlock_other (by omega)).trans hgb,h3⟩
def RowsU(B:Nat)(w:World)(a:Option Addr)(rs:List (List Int)):Prop:=
 ∀m,m<len rs→∃rb ro ra rc,a=some ⟨rb,ro,none⟩∧B≤rb∧w.cell? ⟨rb,ro+m,none⟩=some (.slice ra (len (rnth rs m)) rc)∧∀q,q<len (rnth rs m)→∃ub uo,ra=some ⟨ub,uo,none⟩∧B≤ub∧w.cell? ⟨ub,uo+q,none⟩=some (.int .u64 (nth (rnth rs m) q))
theorem rowsU_of{w:World}{B:Nat}{v:Value}{vals:List Value}{rs:List (List Int)}(h:w.ownsRow B 64 1 v vals.length vals)(hr:RowsAre w B vals rs):∃a cap,v=.slice a (len rs) cap∧RowsU B w a rs:=by
 have hl:vals.length=len rs:=hr.1
 rcases h.2 with⟨rfl,h2⟩ | ⟨g,cap,cur,rfl,hg,hgb,_⟩
 ·exact⟨none,0,by rw[←hl,h2],λ m hm=>by omega⟩
 ·refine⟨some ⟨g,0,none⟩,cap,by rw[hl],λ m hm=>?_⟩
  have hm2:m<rs.length:=hm
  obtain⟨u,h1,h2⟩:=hr.2 m hm2
  have hc:=h.cellAt m (by omega)
  rw[h1]at hc
  rw[←rnth_eq rs m hm2]at h2
  obtain⟨ra,rc,rfl,hU,_,_⟩:=own_u64 h2
  refine⟨g,0,ra,rc,rfl,hg,by rw[Nat.zero_add];exact hc,λ q hq=>?_⟩
  obtain⟨ub,uo,rfl,hcq⟩:=hU q hq
  refine⟨ub,uo,rfl,?_,hcq⟩
  exact(h2.lt ub rfl).1
def Upper(B:Nat)(w w':World):Prop:=∀b,B≤b→b<w.heap.size→w'.heap[b]?=w.heap[b]?
theorem Upper.refl(B:Nat)(w:World):Upper B w w:=λ b _ _=>rfl
theorem Upper.cell{B:Nat}{w w':World}(h:Upper B w w'){b o:Nat}{v:Value}(hb:B≤b)(hc:w.cell? ⟨b,o,none⟩=some v):w'.cell? ⟨b,o,none⟩=some v:=
 (World.cell?_of_block (w:=w) (h b hb (lt_of_cell hc))).trans hc
theorem Upper.bel{B:Nat}{w w' w2:World}(h:Upper B w w')(hs:w.heap.size≤w'.heap.size)(hb:Below w'.heap.size w' w2):Upper B w w2:=λ b h1 h2=>(hb.block b (by omega)).trans (h b h1 h2)
theorem Upper.set{B:Nat}{w w':World}(h:Upper B w w'){p:Nat}(hp:p<B)(k:Nat)(v:Value):Upper B w (w'.setCell ⟨p,k,none⟩ v):=λ b h1 h2=>(Below.heap_setCell _ _ _ _ (by omega:b≠p)).trans (h b h1 h2)
theorem Upper.map{B:Nat}{w w':World}(h:Upper B w w'){p:Nat}(hp:p<B ∨ w.heap.size≤p)(o:Obj):Upper B w (setBlock w' p o):=λ b h1 h2=>(setBlock_other (by omega)).trans (h b h1 h2)
theorem usedR_bd{rs:List (List Int)}(h:∀i,len (rnth rs i)≤100):∀m,m≤len rs→usedR rs m≤100 * m
 | 0,_=>Nat.le_refl _
 | m+1,hm=>by
  rw[usedR_next rs m (by omega)]
  have:=usedR_bd h m (by omega);have:=h m
  omega
theorem LvAt.put{mb:Nat}{g:KnF}{w:World}{L:List (Int × Value)}(hl:w.heap[mb]?=some (mObj .u64 0 L))(hm:MapF L g)(hs:SmF g){t:Int}{D:ByteArray}(ht:U64 t)(hd:D.size≤1000):LvAt mb (putF g t D) (setBlock w mb (mObj .u64 0 (mPut L t (.string D)))):=
 ⟨⟨_,setBlock_same hl,hm.put t D ht⟩,hs.put t D hd⟩
theorem row_u64{ps:List Int}{d i:Nat}{t:Int}(hd:d≤16)(hi:i<d)(h:t ∈ rnth (rowsOf (leavesL ps (d:Nat)) d) i):U64 t:=by
 obtain⟨⟨y,hy,rfl⟩,_⟩:=(row_mem _ d i hi t).1 h
 obtain⟨h1,h2⟩:=leaves_in hd y hy
 have h3:=half_bd h1 h2 (Nat.le_of_lt hi)
 obtain⟨e,he⟩:∃e,d - i=e+1:=⟨d - i - 1,by omega⟩
 rw[he]at h3
 have h4:=sib_bd h3.1 h3.2;have h5:(2:Int) ^ (e+1)≤65536:=by
  rw[pow_cast]
  have:2 ^ (e+1)≤65536:=Nat.pow_le_pow_right (n:=2) (by decide) (by omega:e+1≤16)
  omega
 unfold U64
 omega
set_option maxRecDepth 100000 in
set_option maxHeartbeats 8000000 in
theorem proot_main(nn:Nat)(ps:List Int)(es ds:List ByteArray)(pa ea da:Option Addr)(pc ec dc:Nat)(w:World)(hp:U64s w pa ps)(he:Txts w ea es)(hd:Txts w da ds)(hl:len ps≤100)(hu:∀k ∈ ps,U64 k)(hld:len ds≤1000000)(hdc:len ds≤dc)(hez:∀i,i<len es→(tth es i).size≤1000000)(hb:ArgOk (nn:Nat) ps es)(hbad:badB ds=false):
  Calls Tryz.prog 102 #[.int .i64 (nn:Nat),.slice pa (len ps) pc,.slice ea (len es) ec,.slice da (len ds) dc] w (RootIs (nn:Nat) ps es ds w):=by
 have hn16:nn≤65536:=by have:=hb.1.2.1;omega
 obtain⟨d,hdd⟩:∃d:Nat,Lib.bitLen (nn - 1)=d:=⟨_,rfl⟩
 have hdz:depthZ (nn:Nat)=(d:Nat):=by unfold depthZ;rw[if_neg (by omega),Int.toNat_natCast,hdd]
 have hdb:=depth_bd nn hn16
 rw[hdd]at hdb
 have HD16:Hid (d≤16):=Lib.hid hdb.1
 obtain⟨lv,hlv⟩:∃lv,leavesL ps (d:Nat)=lv:=⟨_,rfl⟩
 have HLN:Hid (len lv=len ps):=Lib.hid (by rw[←hlv,leavesL_len]);have HLU:Hid (∀k ∈ lv,U64 k):=Lib.hid (by rw[←hlv];exact leavesL_u64 ps _)
 obtain⟨rs,hrs⟩:∃rs,rowsOf lv d=rs:=⟨_,rfl⟩
 have HNR:Hid (needsL lv (d:Nat)=rs):=Lib.hid (by rw[←hrs,←hlv];exact needsP_rows hdb.1 hb.1.2.2);have HRL:Hid (len rs=d):=Lib.hid (by rw[←hrs,rowsOf_len]);have HLV:=Lib.hid hlv;have HRS:=Lib.hid hrs;have HNM:Hid ((∀i,len (rnth rs i)≤100)∧(flatLv rs).length≤1600):=Lib.hid (by
  rw[←HNR.out]
  exact⟨rnth_nl _ _ (by rw[HLN.out];exact hl),flat_bd _ _ (by rw[HLN.out];exact hl)⟩)
 have HRP:Hid (rowsP (nn:Nat) ps=rs):=Lib.hid (by unfold rowsP;rw[hdz,hlv];exact HNR.out);have HDP:Hid (digP (nn:Nat) ps es ds=kidF (rootG (g0F lv es) rs ds) 0):=Lib.hid (by unfold digP;rw[HRP.out,hdz,hlv]);have HNP:Hid (neededP (nn:Nat) ps=usedR rs (len rs)):=Lib.hid (by unfold neededP;rw[HRP.out]);have HM:=Lib.hid (λ w9 hb9=>pmay_any (nn:Nat) ps pa pc w9 (hp.below hb9) (by omega) (by omega) (by omega))
 rw[decide_eq_true hb.1]at HM
 have hel:=hb.2;have HBD:=Lib.hid (λ w9 hb9=>bad_any da dc ds w9 (hd.below hb9) (by omega))
 rw[hbad]at HBD
 have HDE:=Lib.hid (λ w9=>depth_any (nn:Nat) w9 (by omega) (by omega))
 rw[hdz]at HDE
 have HLF:=Lib.hid (λ k (hk:U64 k) w9=>leaf_any k (d:Nat) w9 hk.1 hk.2);have HP:=Lib.hid hp;have HES:=Lib.hid he;have HDS:=Lib.hid hd;have HU:=Lib.hid hu;have HL100:=Lib.hid hl;have HEZ:=Lib.hid hez;have HEL:=Lib.hid hel;have HLD:=Lib.hid hld;have HDC:=Lib.hid hdc;have HARG:=Lib.hid hb;have HBADF:=Lib.hid hbad
 obtain⟨i0,hi,hz0,hz1,hz2⟩:=info_parts info_u64
 have HZ0:=Lib.hid hz0;clear hp he hd hl hu hld hdc hez hb hbad hn16 hdd hdz hdb hlv hrs hel hz0
 go_enter Tryz.func102,Tryz.ntmps102
 rw[HEL.out]
 go_upto_region 1 with fail
 obtain⟨pb,hpb⟩:∃pb,w.heap.size=pb:=⟨_,rfl⟩
 obtain⟨V,hV⟩:∃V,w.alloc (.cells #[.slice da (len ds) dc] 36)=V:=⟨_,rfl⟩
 have HVP:Hid (V.heap[pb]?=some (.cells #[.slice da (len ds) dc] 36 (0,0))):=Lib.hid (by rw[←hV];exact alloc_new_at _ hpb);have HVW:Hid (Below w.heap.size w V):=Lib.hid (by rw[←hV];exact balloc (Below.refl _ _) _);have HPB:Hid (w.heap.size≤pb):=Lib.hid (Nat.le_of_eq hpb)
 rw[hpb,hV]
 clear hV hpb
 go_wp2_with fail
 refine(HM.out _ HVW.out).mono ?_
 rintro e w1 ⟨rfl,hb1⟩
 have HP1:Hid (w1.heap[pb]?=some (.cells #[.slice da (len ds) dc] 36 (0,0))):=Lib.hid ((hb1.block _ (lt_of_block HVP.out)).trans HVP.out);have HB1:Hid (Below w.heap.size w w1):=Lib.hid (bnext HVW.out hb1);clear hb1 HVP HVW HM;have c0:w1.cell? ⟨pb,0,none⟩=some (.slice da (len ds) dc):=by rw[block_cell HP1.out];rfl
 have c2:pb<w1.heap.size:=lt_of_block HP1.out
 go_wp2_with fail
 refine(HBD.out w1 HB1.out).mono ?_
 rintro e w2 ⟨rfl,rfl⟩
 clear c0 c2 HBD
 go_wp2_with fail
 refine(HDE.out w1).mono ?_
 rintro e w2 ⟨rfl,rfl⟩
 have hmm:=@run_makeMap Tryz.prog
 go_upto_region 9 with fail
 clear hmm HDE
 obtain⟨mb,hmb⟩:∃mb,w1.heap.size=mb:=⟨_,rfl⟩
 obtain⟨V,hV⟩:∃V,w1.alloc (Obj.map #[] 0)=V:=⟨_,rfl⟩
 have HVM:Hid (LvAt mb (addF noF (lv.take 0) (leafD es)) V):=Lib.hid ⟨⟨[],by rw[←hV];exact alloc_new_at _ hmb,by rw[List.take_zero];exact MapF.nil⟩,by rw[List.take_zero];exact SmF.no⟩;have HVP:Hid (V.heap[pb]?=some (.cells #[.slice da (len ds) dc] 36 (0,0))):=Lib.hid (by rw[←hV];exact block_alloc HP1.out _);have HVW:Hid (Below w.heap.size w V):=Lib.hid (by rw[←hV];exact balloc HB1.out _);have HMB:Hid (pb<mb∧w.heap.size≤mb):=Lib.hid ⟨by rw[←hmb];exact lt_of_block HP1.out,by rw[←hmb];exact HB1.out.size⟩
 obtain⟨B,hB⟩:∃B,V.heap.size=B:=⟨_,rfl⟩
 have HBM:Hid (mb<B):=Lib.hid (by rw[←hB];exact HVM.out.lt);have HVB:Hid (B≤V.heap.size):=Lib.hid (Nat.le_of_eq hB.symm)
 rw[hmb,hV]
 clear hV hmb HB1 HP1 hB
 go_loopg [45,12] (len ps) (λ g i v wr=>∃m:Nat,g+m=len ps∧i=.int .i64 m∧Hid (wr.ownsRow B 23 1 v m ((lv.take m).map (Value.int .u64)))∧Hid (LvAt mb (addF noF (lv.take m) (leafD es)) wr)∧Hid (wr.heap[pb]?=some (.cells #[.slice da (len ds) dc] 36 (0,0)))∧Hid (Below w.heap.size w wr)∧Hid (B≤wr.heap.size))
 case atStart=>exact⟨0,rfl,rfl,Lib.hid (World.ownsRow_nil _ _ _ _),HVM,HVP,HVW,HVB⟩
 case round=>
  clear HVM HVP HVW HVB
  obtain⟨m,hm,rfl,HO,HG,HPX,HW,HBS⟩:=hrel
  have HNN:=HL100.out
  by_cases hlt:m<len ps
  ·have b0:(m:Int)<len ps:=by omega
   have b1:¬len ps≤m:=by omega
   obtain⟨b,off,hra,hcell⟩:=HP.out.below HW.out m hlt
   subst hra
   obtain⟨eb,eo,hea,hcel⟩:=HES.out.below HW.out m (by rw[HEL.out];exact hlt)
   subst hea
   obtain⟨k,hk⟩:∃k,nth ps m=k:=⟨_,rfl⟩
   have hku:U64 k:=by rw[←hk];exact HU.out _ (mem_nth hlt)
   obtain⟨s,hs⟩:∃s,tth es m=s:=⟨_,rfl⟩
   have HSZ:Hid (s.size≤1000000):=Lib.hid (by rw[←hs];exact HEZ.out m (by rw[HEL.out];exact hlt))
   obtain⟨t,ht⟩:∃t,turnedZ k (d:Nat)=t:=⟨_,rfl⟩
   have HSS:=Lib.hid hs;have HTN:Hid (nth lv m=t):=Lib.hid (by rw[←HLV.out,leaves_nth ps _ m hlt,hk,ht]);have HTU:Hid (U64 t):=Lib.hid (by rw[←HTN.out];exact HLU.out _ (mem_nth (by rw[HLN.out];exact hlt)));have HLK:=Lib.hid (HLF.out k hku wr)
   rw[ht]at HLK
   have HLD9:Hid (tth (leafD es) m=hashP leafT [s]):=Lib.hid (by rw[leafD_at es m (by rw[HEL.out];exact hlt),hs])
   rw[hk]at hcell
   rw[hs]at hcel
   have l1:=lt_of_cell hcell;have HCE:=Lib.hid hcel;clear hk hku hs ht hcel
   go_upto_region 11 with fail
   clear hcell l1
   go_wp2_with fail
   refine HLK.out.mono ?_
   rintro e w2 ⟨rfl,rfl⟩
   go_upto_region 13 with(at_builtin;refine wpList_append_own _ rfl _ _ 64 rfl B 23 i0 (.int .u64 0) 1 8 Tryz.underlying64 hi HZ0.out hz1 hz2 rfl (by decide) _ _ _ rfl (HO.out.alloc _) ⟨wr.heap.size,0,none⟩ 1 1 [.int .u64 t] rfl rfl (World.news_of_block (heap_alloc_new _ _)) (by intro u hu9;simp at hu9;subst hu9;rfl) (by unfold maxLen;omega) (by omega) (by have:=HBS.out;simp;omega) ?_;intro v2 w4 hown2 hgrow2 _)
   have HX9:Hid (Below wr.heap.size wr (wr.alloc (.cells #[.int .u64 t] 23))):=Lib.hid (balloc (Below.refl _ _) _);have HO4:Hid (w4.ownsRow B 23 1 v2 (m+1) ((lv.take (m+1)).map (Value.int .u64))):=Lib.hid (by
    rw[take_snoc_nth (by rw[HLN.out];exact hlt),HTN.out,List.map_append]
    exact hown2)
   have HG4:Hid (LvAt mb (addF noF (lv.take m) (leafD es)) w4):=Lib.hid (HG.out.keep ((own_keeps (HO.out.alloc _) hgrow2 HBM.out (by have:=HG.out.lt;simp;omega)).trans (HX9.out.block _ HG.out.lt)));have HP4:Hid (w4.heap[pb]?=some (.cells #[.slice da (len ds) dc] 36 (0,0))):=Lib.hid (((own_keeps (HO.out.alloc _) hgrow2 (by have:=HBM.out;have:=HMB.out;omega) (by have:=lt_of_block HPX.out;simp;omega)).trans (HX9.out.block _ (lt_of_block HPX.out))).trans HPX.out);have HW4:Hid (Below w.heap.size w w4):=Lib.hid (grownBy_below (balloc HW.out _) hgrow2 (λ k hk'=>Nat.le_trans (Nat.le_trans HMB.out.2 (Nat.le_of_lt HBM.out)) (HO.out.lt k hk').1));have HB4:Hid (B≤w4.heap.size):=Lib.hid (by have h9:=hgrow2.size;have:=HBS.out;simp at h9;omega);clear hown2 hgrow2 HX9 HO HG HPX HW HBS HLK HCE
   obtain⟨eb2,eo2,he2,hcel2⟩:=HES.out.below HW4.out m (by rw[HEL.out];exact hlt)
   cases he2
   rw[HSS.out]at hcel2
   have l2:=lt_of_cell hcel2;have HELL:=HEL.out;have b3:(m:Int)<(len es:Int):=by omega
   have b4:¬len es≤m:=by omega
   go_wp2_with fail
   refine(hash1_any leafT s w4 (by decide) (by decide) HSZ.out).mono ?_
   rintro e w5 ⟨rfl,hb5⟩
   clear hcel2 l2 b3 b4 HELL;have HO5:Hid (w5.ownsRow B 23 1 v2 (m+1) ((lv.take (m+1)).map (Value.int .u64))):=Lib.hid (own_below HO4.out hb5);have HG5:Hid (LvAt mb (addF noF (lv.take m) (leafD es)) w5):=Lib.hid (HG4.out.keep (hb5.block _ HG4.out.lt));have HP5:Hid (w5.heap[pb]?=some (.cells #[.slice da (len ds) dc] 36 (0,0))):=Lib.hid ((hb5.block _ (lt_of_block HP4.out)).trans HP4.out);have HW5:Hid (Below w.heap.size w w5):=Lib.hid (bnext HW4.out hb5);have HB5:Hid (B≤w5.heap.size):=Lib.hid (Nat.le_trans HB4.out hb5.size)
   obtain⟨⟨L,hL,hmf⟩,hsm⟩:=HG5.out
   have HLL:=Lib.hid hL;have HMF:=Lib.hid hmf;have HSM:=Lib.hid hsm
   obtain⟨D,hD⟩:∃D,hashP leafT [s]=D:=⟨_,rfl⟩
   have HDZ9:Hid (D.size≤1000):=Lib.hid (by rw[←hD,hashP_size];omega);have HAF:Hid (addF noF (lv.take (m+1)) (leafD es)=putF (addF noF (lv.take m) (leafD es)) t D):=Lib.hid (by rw[addF_take _ _ _ m (by rw[HLN.out];exact hlt),HTN.out,HLD9.out,hD])
   rw[hD]
   clear hb5 hL hmf hsm hD HO4 HG4 HP4 HW4 HB4 HG5
   go_upto_region 14 with(at_mapUpdate;refine wpList_mapUpdate_m rfl _ _ _ 200 23 9 .u64 rfl Tryz.underlying200 Tryz.underlying23 mb 0 _ rfl HLL.out t (.string D) rfl rfl ?_)
   obtain⟨U,hU⟩:∃U,setBlock w5 mb (mObj .u64 0 (mPut L t (.string D)))=U:=⟨_,rfl⟩
   have HG6:Hid (LvAt mb (addF noF (lv.take (m+1)) (leafD es)) U):=Lib.hid (by rw[HAF.out,←hU];exact LvAt.put HLL.out HMF.out HSM.out HTU.out HDZ9.out);have HO6:Hid (U.ownsRow B 23 1 v2 (m+1) ((lv.take (m+1)).map (Value.int .u64))):=Lib.hid (by rw[←hU];exact own_setBlock HO5.out HBM.out _);have HP6:Hid (U.heap[pb]?=some (.cells #[.slice da (len ds) dc] 36 (0,0))):=Lib.hid (by rw[←hU];exact(setBlock_other (by have:=HMB.out;omega)).trans HP5.out);have HW6:Hid (Below w.heap.size w U):=Lib.hid (by rw[←hU];exact setBlock_below HW5.out HMB.out.2);have HB6:Hid (B≤U.heap.size):=Lib.hid (by rw[←hU,setBlock_size];exact HB5.out)
   rw[hU]
   clear hU HO5 HP5 HW5 HB5 HLL
   go_wp2
   go_roundg (len ps - (m+1))
   case rel=>exact⟨m+1,by omega,by go_num,HO6,HG6,HP6,HW6,HB6⟩
   case measure=>omega
  ·obtain rfl:m=len ps:=by omega
   have b0:¬((len ps:Nat):Int)<len ps:=by omega
   have HGZ:Hid (LvAt mb (g0F lv es) wr):=Lib.hid (by
    have h9:=HG.out
    rw[show lv.take (len ps)=lv by rw[←HLN.out,take_len]]at h9
    exact h9)
   have HOZ:Hid (wr.ownsRow B 23 1 u12 (len ps) (lv.map (Value.int .u64))):=Lib.hid (by
    have h9:=HO.out
    rw[show lv.take (len ps)=lv by rw[←HLN.out,take_len]]at h9
    exact h9)
   obtain⟨al,cl,rfl,hUl,_,_⟩:=own_u64 HOZ.out
   have HND:=Lib.hid (needs_any al cl lv (d:Nat) wr hUl (by rw[HLN.out];exact HL100.out) HLU.out)
   rw[HNR.out]at HND
   clear hUl HO HG HOZ hm
   go_wp2_with fail
   refine HND.out.mono ?_
   rintro e w3 ⟨v,vals,rfl,hr1,hr2,hb3⟩
   obtain⟨a3,cap3,rfl,hRU⟩:=rowsU_of hr1 hr2
   have HRU:=Lib.hid hRU
   obtain⟨B2,hB2⟩:∃B2,wr.heap.size=B2:=⟨_,rfl⟩
   rw[hB2]at HRU
   have HB2:Hid (mb<B2∧pb<B2):=Lib.hid ⟨by rw[←hB2];exact HGZ.out.lt,by rw[←hB2];exact lt_of_block HPX.out⟩;have HG3:Hid (LvAt mb (g0F lv es) w3):=Lib.hid (HGZ.out.keep (hb3.block _ HGZ.out.lt));have HP3:Hid (w3.heap[pb]?=some (.cells #[.slice da (len ds) dc] 36 (0,0))):=Lib.hid ((hb3.block _ (lt_of_block HPX.out)).trans HPX.out);have HW3:Hid (Below w.heap.size w w3):=Lib.hid (bnext HW.out hb3);have HB23:Hid (B2≤w3.heap.size):=Lib.hid (by rw[←hB2];exact hb3.size);clear hr1 hr2 hRU hB2 hb3 HND HGZ HPX HW HBS
   go_upto_region 18 with fail
   go_loopg [71,17] (len rs) (λ g i v wr=>∃m:Nat,g+m=len rs∧i=.int .i64 m∧v=.int .i64 (usedR rs m:Nat)∧wr=w3)
   case atStart=>exact⟨0,rfl,rfl,rfl,rfl⟩
   case round=>
    obtain⟨m,hm,rfl,rfl,rfl⟩:=hrel
    have hr16:len rs≤16:=by have:=HRL.out;have:=HD16.out;omega
    by_cases hlt:m<len rs
    ·have b1:(m:Int)<len rs:=by omega
     have b2:¬len rs≤m:=by omega
     obtain⟨rb,ro,ra,rc,hra3,_,hrc,_⟩:=HRU.out m hlt
     subst hra3
     have l1:=lt_of_cell hrc;have HN9:Hid (usedR rs (m+1)=usedR rs m+len (rnth rs m)):=Lib.hid (usedR_next rs m hlt);have hub:usedR rs m+len (rnth rs m)≤1600:=by
      rw[←usedR_next rs m hlt]
      have:=usedR_bd HNM.out.1 (m+1) (by omega)
      omega
     obtain⟨u,hu⟩:∃u,usedR rs m=u:=⟨_,rfl⟩
     obtain⟨q,hq⟩:∃q,len (rnth rs m)=q:=⟨_,rfl⟩
     rw[hu,hq]at hub HN9
     rw[hq]at hrc
     rw[hu]
     clear hu hq
     go_wp2
     go_roundg (len rs - (m+1))
     case rel=>exact⟨m+1,by omega,by go_num,by rw[HN9.out];go_num,rfl⟩
     case measure=>omega
    ·obtain rfl:m=len rs:=by omega
     have b1:¬((len rs:Nat):Int)<len rs:=by omega
     have hub:usedR rs (len rs)≤1600:=by
      have:=usedR_bd HNM.out.1 (len rs) (Nat.le_refl _)
      omega
     obtain⟨N,hN⟩:∃N,usedR rs (len rs)=N:=⟨_,rfl⟩
     have HNN:=Lib.hid hN
     rw[hN]at hub HNP ⊢
     have HUB:=Lib.hid hub;clear hN hub hm hr16;have c0:wr.cell? ⟨pb,0,none⟩=some (.slice da (len ds) dc):=by rw[block_cell HP3.out];rfl
     have c2:pb<wr.heap.size:=lt_of_block HP3.out
     by_cases hlt4:len ds<N
     ·have z1:((len ds:Nat):Int)<((N:Nat):Int):=by omega
      have HE:Hid (rootE (nn:Nat) ps es ds=4∧rootS (nn:Nat) ps es ds=⟨#[]⟩):=Lib.hid (by
       have h9:rootE (nn:Nat) ps es ds=4:=by unfold rootE;rw[if_neg (λ h=>h HARG.out),if_neg (by rw[HBADF.out];simp),HNP.out,if_pos hlt4]
       exact⟨h9,by unfold rootS;rw[h9];rfl⟩)
      clear hlt4
      go_wp2
      go_ret2
      exact⟨by rw[HE.out.1,HE.out.2];rfl,HW3.out⟩
     ·have z1:¬((len ds:Nat):Int)<((N:Nat):Int):=by omega
      by_cases hlt3:N<len ds
      ·have z2:((N:Nat):Int)<((len ds:Nat):Int):=by omega
       have HE:Hid (rootE (nn:Nat) ps es ds=3∧rootS (nn:Nat) ps es ds=⟨#[]⟩):=Lib.hid (by
        have h9:rootE (nn:Nat) ps es ds=3:=by unfold rootE;rw[if_neg (λ h=>h HARG.out),if_neg (by rw[HBADF.out];simp),HNP.out,if_neg hlt4,if_pos hlt3]
        exact⟨h9,by unfold rootS;rw[h9];rfl⟩)
       clear hlt4 hlt3
       go_wp2
       go_ret2
       exact⟨by rw[HE.out.1,HE.out.2];rfl,HW3.out⟩
      ·have z2:¬((N:Nat):Int)<((len ds:Nat):Int):=by omega
       have HEQ:Hid (len ds=N):=Lib.hid (by omega);have HE:Hid (rootE (nn:Nat) ps es ds=0∧rootS (nn:Nat) ps es ds=kidF (rootG (g0F lv es) rs ds) 0):=Lib.hid (by
        have h9:rootE (nn:Nat) ps es ds=0:=by unfold rootE;rw[if_neg (λ h=>h HARG.out),if_neg (by rw[HBADF.out];simp),HNP.out,if_neg hlt4,if_neg hlt3]
        exact⟨h9,by unfold rootS;rw[h9,if_pos rfl];exact HDP.out⟩)
       clear hlt4 hlt3
       go_upto_region 28 with fail
       clear z1 z2 c0 c2
       obtain⟨W3,hW3⟩:∃W3,W3=wr:=⟨_,rfl⟩
       subst hW3
       have HG9:Hid (LvAt mb (rootT (g0F lv es) rs ds 0) W3):=HG3;have HBX9:Hid (∃a' c',W3.heap[pb]?=some (.cells #[.slice a' (len (ds.drop (usedR rs 0))) c'] 36 (0,0))∧len (ds.drop (usedR rs 0))≤c'∧∀w9,Txts w9 da ds→Txts w9 a' (ds.drop (usedR rs 0))):=Lib.hid ⟨da,dc,HP3.out,HDC.out,λ _ h9=>h9⟩;clear HG3 HP3
       go_loopg [93,11] (len rs) (λ g i v wz=>∃m kb:Nat,g+m=len rs∧i=.int .i64 m∧v=.map (some kb)∧Hid (LvAt kb (rootT (g0F lv es) rs ds m) wz)∧Hid (∃a' c',wz.heap[pb]?=some (.cells #[.slice a' (len (ds.drop (usedR rs m))) c'] 36 (0,0))∧len (ds.drop (usedR rs m))≤c'∧∀w9,Txts w9 da ds→Txts w9 a' (ds.drop (usedR rs m)))∧Hid (Below w.heap.size w wz)∧Hid (Upper B2 W3 wz)∧Hid (pb<kb∧w.heap.size≤kb∧(kb<B2 ∨ W3.heap.size≤kb)∧W3.heap.size≤wz.heap.size))
       case atStart=>exact⟨0,mb,rfl,rfl,rfl,HG9,HBX9,HW3,Lib.hid (Upper.refl _ _),Lib.hid ⟨HMB.out.1,HMB.out.2,.inl HB2.out.1,Nat.le_refl _⟩⟩
       case round=>
        clear HG9 HBX9
        obtain⟨m,kb,hm,rfl,rfl,HG,HBX,HWZ,HUP,HKB⟩:=hrel
        obtain⟨wz,hwz⟩:∃wz,wz=wr:=⟨_,rfl⟩
        subst hwz
        have hr16:len rs≤16:=by have:=HRL.out;have:=HD16.out;omega
        by_cases hlt:m<len rs
        ·have b1:(m:Int)<len rs:=by omega
         have b2:¬len rs≤m:=by omega
         obtain⟨rb,ro,ra,rc,hra3,hrb,hrc,hrq⟩:=HRU.out m hlt
         subst hra3
         have hrc2:=HUP.out.cell hrb hrc;have l1:=lt_of_cell hrc2
         obtain⟨row,hrow⟩:∃row,rnth rs m=row:=⟨_,rfl⟩
         have HROW:=Lib.hid hrow
         rw[hrow]at hrc2 hrq
         have HRQ:=Lib.hid hrq;have HRLN:Hid (len row≤100):=Lib.hid (by rw[←hrow];exact HNM.out.1 m);have HHM:=Lib.hid hm;have HHL:=Lib.hid hlt
         obtain⟨u,hu⟩:∃u,usedR rs m=u:=⟨_,rfl⟩
         have HUU:Hid (usedR rs m=u):=Lib.hid hu;have HUT:Hid (u+len row≤len ds):=Lib.hid (by
          have h1:=usedR_next rs m hlt;have h2:=usedR_le rs (m+1)
          rw[hrow,hu]at h1
          rw[HEQ.out,←HNN.out]
          omega)
         obtain⟨GT,hGT⟩:∃GT,rootT (g0F lv es) rs ds m=GT:=⟨_,rfl⟩
         have HGT:=Lib.hid hGT
         rw[hGT]at HG
         rw[hu]at HBX
         have HG0:Hid (LvAt kb (addF GT (row.take 0) (ds.drop u)) wz):=Lib.hid (by rw[List.take_zero];exact HG.out);have HBX0:Hid (∃a' c',wz.heap[pb]?=some (.cells #[.slice a' (len (ds.drop (u+0))) c'] 36 (0,0))∧len (ds.drop (u+0))≤c'∧∀w9,Txts w9 da ds→Txts w9 a' (ds.drop (u+0))):=HBX
         obtain⟨GK,hGK⟩:∃G,G=gk:=⟨_,rfl⟩
         subst hGK
         clear hrc hrq hrow hu hGT HG HBX hm hlt hr16
         go_upto_region 31 with fail
         clear hrc2 l1 b1 b2
         go_loopg [99] (len row) (λ g j wy=>∃q:Nat,g+q=len row∧j=.int .i64 q∧Hid (LvAt kb (addF GT (row.take q) (ds.drop u)) wy)∧Hid (∃a' c',wy.heap[pb]?=some (.cells #[.slice a' (len (ds.drop (u+q))) c'] 36 (0,0))∧len (ds.drop (u+q))≤c'∧∀w9,Txts w9 da ds→Txts w9 a' (ds.drop (u+q)))∧Hid (Below w.heap.size w wy)∧Hid (Upper B2 W3 wy)∧Hid (W3.heap.size≤wy.heap.size))
         case atStart=>exact⟨0,rfl,rfl,HG0,HBX0,HWZ,HUP,Lib.hid HKB.out.2.2.2⟩
         case round=>
          clear HG0 HBX0 HWZ HUP
          obtain⟨q,hq,rfl,HG,HBX,HWZ,HUP,HSZ⟩:=hrel
          obtain⟨wy,hwy⟩:∃wy,wy=wr:=⟨_,rfl⟩
          subst hwy
          have hr100:=HRLN.out
          by_cases hlq:q<len row
          ·have b1:(q:Int)<len row:=by omega
           have b2:¬len row≤q:=by omega
           obtain⟨ub,uo,hua,hub,huc⟩:=HRQ.out q hlq
           subst hua
           have huc2:=HUP.out.cell hub huc;have l2:=lt_of_cell huc2
           obtain⟨t,ht⟩:∃t,nth row q=t:=⟨_,rfl⟩
           rw[ht]at huc2
           have HTU:Hid (U64 t):=Lib.hid (by
            have h1:t ∈ rnth rs m:=by rw[HROW.out,←ht];exact mem_nth hlq
            rw[←HRS.out,←HLV.out]at h1
            exact row_u64 HD16.out (by rw[←HRL.out];exact HHL.out) h1)
           obtain⟨a9,c9,hbx,hc9,hta⟩:=HBX.out
           have HTN:Hid (addF GT (row.take (q+1)) (ds.drop u)=putF (addF GT (row.take q) (ds.drop u)) t (tth ds (u+q))):=Lib.hid (by rw[addF_take _ _ _ q hlq,ht,tth_drop]);have hdl:len (ds.drop (u+q))=len ds - (u+q):=by rw[len_eq,List.length_drop];rfl
           have hut:=HUT.out;have HNX:=Lib.hid (nextd_any pb a9 c9 (ds.drop (u+q)) wy hbx (hta _ (HDS.out.below HWZ.out)) (by omega) hc9);have HDD:Hid ((tth ds (u+q)).size≤1000):=Lib.hid (by
            have h1:=of_decide_eq_false HBADF.out;have h2:u+q<ds.length:=by have:len ds=ds.length:=rfl;omega
            apply Classical.byContradiction
            intro h3
            exact h1 ⟨ds[u+q],List.getElem_mem h2,λ h4=>h3 (by rw[tth_eq ds (u+q) h2,h4];omega)⟩)
           have HC9:Hid (len (ds.drop (u+q)) - 1≤c9):=Lib.hid (by omega);have HBQ:=Lib.hid hbx;have HDL1:Hid (len (ds.drop (u+(q+1)))=len (ds.drop (u+q)) - 1):=Lib.hid (by rw[len_eq,List.length_drop,hdl];have:len ds=ds.length:=rfl;omega)
           obtain⟨⟨L,hL,hmf⟩,hsm⟩:=HG.out
           have HLW:=Lib.hid hL;have HMF:=Lib.hid hmf;have HSM:=Lib.hid hsm
           obtain⟨D,hD⟩:∃D,tth ds (u+q)=D:=⟨_,rfl⟩
           have HT0:Hid (tth (ds.drop (u+q)) 0=D):=Lib.hid (by rw[tth_drop,Nat.add_zero,hD])
           rw[hD]at HDD HTN
           clear hbx hc9 hut hdl hL hmf hsm hD huc ht
           go_wp2_with fail
           refine HNX.out.mono ?_
           rintro e w2 ⟨a',c',rfl,hw2,hc',hta'⟩
           rw[HT0.out]
           have HCC:=Lib.hid hc';have HTA:=Lib.hid hta';have HKP:Hid (pb≠kb):=Lib.hid (by have:=HKB.out.1;omega);have HL2:Hid (w2.heap[kb]?=some (mObj .u64 0 L)):=Lib.hid (by rw[hw2];exact(Below.heap_setCell _ _ _ _ (show kb≠pb by have:=HKP.out;omega)).trans HLW.out);have HP2:Hid (w2.heap[pb]?=some (.cells #[.slice a' (len (ds.drop (u+q)) - 1) c'] 36 (0,0))):=Lib.hid (by rw[hw2];exact block_setCell HBQ.out _);have HW2:Hid (Below w.heap.size w w2):=Lib.hid (by rw[hw2];exact bset HWZ.out HPB.out _);have HU2:Hid (Upper B2 W3 w2):=Lib.hid (by rw[hw2];exact HUP.out.set HB2.out.2 _ _);have HS2:Hid (W3.heap.size≤w2.heap.size):=Lib.hid (by rw[hw2];have:=HSZ.out;simp[World.setCell];exact this);clear hw2 hc' hta' HLW HBQ HBX HWZ HUP HSZ HNX huc2 l2 b2
           go_upto_region 34 with(at_mapUpdate;refine wpList_mapUpdate_m rfl _ _ _ 200 23 9 .u64 rfl Tryz.underlying200 Tryz.underlying23 kb 0 _ rfl HL2.out t (.string D) rfl rfl ?_)
           obtain⟨U,hU⟩:∃U,setBlock w2 kb (mObj .u64 0 (mPut L t (.string D)))=U:=⟨_,rfl⟩
           have HG6:Hid (LvAt kb (addF GT (row.take (q+1)) (ds.drop u)) U):=Lib.hid (by rw[HTN.out,←hU];exact LvAt.put HL2.out HMF.out HSM.out HTU.out HDD.out);have HBX6:Hid (∃a' c',U.heap[pb]?=some (.cells #[.slice a' (len (ds.drop (u+(q+1)))) c'] 36 (0,0))∧len (ds.drop (u+(q+1)))≤c'∧∀w9,Txts w9 da ds→Txts w9 a' (ds.drop (u+(q+1)))):=Lib.hid (by
            rw[HDL1.out,←hU]
            refine⟨a',c',(setBlock_other HKP.out).trans HP2.out,HCC.out,λ w9 h9=>?_⟩
            have h8:=HTA.out w9 (hta w9 h9)
            rw[List.drop_drop]at h8
            exact h8)
           have HW6:Hid (Below w.heap.size w U):=Lib.hid (by rw[←hU];exact setBlock_below HW2.out HKB.out.2.1);have HU6:Hid (Upper B2 W3 U):=Lib.hid (by rw[←hU];exact HU2.out.map HKB.out.2.2.1 _);have HS6:Hid (W3.heap.size≤U.heap.size):=Lib.hid (by rw[←hU,setBlock_size];exact HS2.out)
           rw[hU]
           clear hU HL2 HP2 HW2 HU2 HS2
           go_wp2
           go_roundg (len row - (q+1))
           case rel=>exact⟨q+1,by omega,by go_num,HG6,HBX6,HW6,HU6,HS6⟩
           case measure=>omega
          ·obtain rfl:q=len row:=by omega
           have b1:¬((len row:Nat):Int)<len row:=by omega
           have HOV:=Lib.hid (kover_any kb 0 _ wy HG.out.at_ HG.out.small);have hm:=HHM.out;have hlt:=HHL.out;have hr16:len rs≤16:=by have:=HRL.out;have:=HD16.out;omega
           have HRT:Hid (rootT (g0F lv es) rs ds (m+1)=overF (addF GT (row.take (len row)) (ds.drop u))):=Lib.hid (by rw[rootT_next _ _ _ m hlt,HGT.out,HROW.out,HUU.out,take_len]);have HUN:Hid (usedR rs (m+1)=u+len row):=Lib.hid (by rw[usedR_next rs m hlt,HUU.out,HROW.out]);have HPLT:Hid (pb<wy.heap.size):=Lib.hid (by obtain⟨a9,c9,hbx,_⟩:=HBX.out;exact lt_of_block hbx)
           go_wp2_with fail
           refine HOV.out.mono ?_
           rintro e w2 ⟨b9,rfl,hk9,hb9,hbel⟩
           have HG6:Hid (LvAt b9 (rootT (g0F lv es) rs ds (m+1)) w2):=Lib.hid (by rw[HRT.out];exact⟨hk9,SmF.over _⟩);have HBX6:Hid (∃a' c',w2.heap[pb]?=some (.cells #[.slice a' (len (ds.drop (usedR rs (m+1)))) c'] 36 (0,0))∧len (ds.drop (usedR rs (m+1)))≤c'∧∀w9,Txts w9 da ds→Txts w9 a' (ds.drop (usedR rs (m+1)))):=Lib.hid (by
            rw[HUN.out]
            obtain⟨a9,c9,hbx,h2,h3⟩:=HBX.out
            exact⟨a9,c9,(hbel.block _ (lt_of_block hbx)).trans hbx,h2,h3⟩)
           have HW6:Hid (Below w.heap.size w w2):=Lib.hid (bnext HWZ.out hbel);have HUP6:Hid (Upper B2 W3 w2):=Lib.hid (HUP.out.bel HSZ.out hbel);have HKB6:Hid (pb<b9∧w.heap.size≤b9∧(b9<B2 ∨ W3.heap.size≤b9)∧W3.heap.size≤w2.heap.size):=Lib.hid (by
            have h1:=HPLT.out;have h2:=HSZ.out;have h3:=hbel.size;have h4:=HWZ.out.size
            exact⟨by omega,by omega,.inr (by omega),by omega⟩)
           clear hk9 hb9 hbel
           go_wp2
           go_roundg (len rs - (m+1))
           case rel=>exact⟨m+1,b9,by omega,by go_num,rfl,HG6,HBX6,HW6,HUP6,HKB6⟩
           case measure=>omega
        ·obtain rfl:m=len rs:=by omega
         have b1:¬((len rs:Nat):Int)<len rs:=by omega
         obtain⟨⟨L,hL,hmf⟩,_⟩:=HG.out
         have HLL:=Lib.hid hL;have HLK:Hid ((mGet L 0).getD (.string ⟨#[]⟩)=.string (rootS (nn:Nat) ps es ds)):=Lib.hid (by
          have h1:=hmf.look 0
          rw[HE.out.2]
          unfold rootT at h1
          rw[take_len]at h1
          exact h1)
         clear hL hmf
         go_wp2_with (at_lookup;refine wpList_lookup_m rfl _ _ 200 23 9 .u64 rfl Tryz.underlying200 Tryz.underlying23 (.string ⟨#[]⟩) (Tryz.zeroValue9 _) kb 0 _ rfl HLL.out 0 rfl ?_;rw[HLK.out])
         go_ret2
         exact⟨by rw[HE.out.1];rfl,HWZ.out⟩
end Go.Proofs.YtpobhbdomldecaaGreatDoor
namespace Go.Proofs.YtpobhbdomldecaaGreatDoor
open Go.RowKit
set_option linter.unusedSimpArgs false
set_option linter.unusedVariables false
structure PrIn(ps:List Int)(es ds:List ByteArray)(pa ea da:Option Addr)(dc:Nat)(w:World):Prop where
 p:U64s w pa ps
 e:Txts w ea es
 d:Txts w da ds
 pl:len ps≤100
 pu:∀k ∈ ps,U64 k
 el:len es≤1000000
 dl:len ds≤1000000
 dc_:len ds≤dc
 ez:∀i,i<len es→(tth es i).size≤1000000
theorem proot_any(n:Int)(ps:List Int)(es ds:List ByteArray)(pa ea da:Option Addr)(pc ec dc:Nat)(w:World)(h:PrIn ps es ds pa ea da dc w)(h0:-9223372036854775808≤n)(h1:n≤9223372036854775807):
  Calls Tryz.prog 102 #[.int .i64 n,.slice pa (len ps) pc,.slice ea (len es) ec,.slice da (len ds) dc] w (RootIs n ps es ds w):=by
 by_cases hb:ArgOk n ps es
 ·cases hbad:badB ds with
  | true=>exact proot_form n ps es ds pa ea da pc ec dc w h.p h.d h.pl h.dl h0 h1 hb hbad
  | false=>
   obtain⟨nn,rfl⟩:=Int.eq_ofNat_of_zero_le hb.1.1
   exact proot_main nn ps es ds pa ea da pc ec dc w h.p h.e h.d h.pl h.pu h.dl h.dc_ h.ez hb hbad
 ·exact proot_arg n ps es ds pa ea da pc ec dc w h.p h.pl h0 h1 hb h.el
def checkE(r:ByteArray)(n:Int)(ps:List Int)(es ds:List ByteArray):Int:=if rootE n ps es ds=0∧rootS n ps es ds≠r then 20 else rootE n ps es ds
set_option maxRecDepth 100000 in
theorem pcheck_any(r:ByteArray)(n:Int)(ps:List Int)(es ds:List ByteArray)(pa ea da:Option Addr)(pc ec dc:Nat)(w:World)(h:PrIn ps es ds pa ea da dc w)(h0:-9223372036854775808≤n)(h1:n≤9223372036854775807):
  Calls Tryz.prog 47 #[.string r,.int .i64 n,.slice pa (len ps) pc,.slice ea (len es) ec,.slice da (len ds) dc] w λ e w'=>e=.returned (.int .i64 (checkE r n ps es ds))∧Below w.heap.size w w':=by
 have HR:=Lib.hid (proot_any n ps es ds pa ea da pc ec dc w h h0 h1);clear h h0 h1
 go_enter Tryz.func47,Tryz.ntmps47
 go_wp2_with fail
 refine HR.out.mono ?_
 rintro e w1 ⟨rfl,hb1⟩
 have HB1:=Lib.hid hb1;have HCE:Hid (checkE r n ps es ds=if rootE n ps es ds=0∧rootS n ps es ds≠r then 20 else rootE n ps es ds):=Lib.hid rfl
 obtain⟨E,hE⟩:∃E,rootE n ps es ds=E:=⟨_,rfl⟩
 obtain⟨D,hD⟩:∃D,rootS n ps es ds=D:=⟨_,rfl⟩
 rw[hE,hD]at HCE ⊢
 clear hb1 hE hD
 by_cases he:E=0
 ·subst he
  by_cases hd:D=r
  ·have e1:(D.toList == r.toList)=true:=by rw[str_beq];exact decide_eq_true hd
   have HC2:Hid (checkE r n ps es ds=0):=Lib.hid (by rw[HCE.out,if_neg (λ h=>h.2 hd)]);clear hd
   go_wp2
   go_ret
   exact⟨by rw[HC2.out];rfl,HB1.out⟩
  ·have e1:(D.toList == r.toList)=false:=by rw[str_beq];exact decide_eq_false hd
   have HC2:Hid (checkE r n ps es ds=20):=Lib.hid (by rw[HCE.out,if_pos ⟨rfl,hd⟩]);clear hd
   go_wp2
   go_ret
   exact⟨by rw[HC2.out];rfl,HB1.out⟩
 ·have e1:(E == 0)=false:=by simpa using he
  have HC2:Hid (checkE r n ps es ds=E):=Lib.hid (by rw[HCE.out,if_neg (λ h=>he h.1)])
  go_wp2
  go_ret
  exact⟨by rw[HC2.out];rfl,HB1.out⟩
end Go.Proofs.YtpobhbdomldecaaGreatDoor
namespace Go.Proofs.YtpobhbdomldecaaGreatDoor
open Go.RowKit
set_option linter.unusedSimpArgs false
set_option linter.unusedVariables false
def treeR(l:List ByteArray):ByteArray:=plD l (depN l) (depN l) 0
theorem one_may{n k:Nat}(hk:k<n):MayOk (n:Nat) [((k:Nat):Int)]:=⟨(by decide:0<1),λ i hi=>by
 have hi:i<1:=hi
 obtain rfl:i=0:=by omega
 exact⟨by show((k:Nat):Int)<n;omega,λ h=>by omega⟩⟩
theorem one_u64{n k:Nat}(hn:n≤65536)(hk:k<n):∀x ∈ [((k:Nat):Int)],U64 x:=λ x hx=>by
 obtain rfl:=List.mem_singleton.1 hx
 exact⟨by omega,by omega⟩
def oneD(els:List ByteArray)(k:Nat):List ByteArray:=dgsL els (plcL (len els:Nat) [((k:Nat):Int)])
theorem oneD_len{els:List ByteArray}{k:Nat}(hn:len els≤65536):len (oneD els k)=depN els:=by
 unfold oneD
 rw[dgs_len,plc_one (d:=depN els) (depthZ_len hn) (depN_le hn)]
theorem one_back{els:List ByteArray}{k:Nat}(hn:len els≤65536)(hk:k<len els):rootE (len els:Nat) [((k:Nat):Int)] [tth els k] (oneD els k)=0∧rootS (len els:Nat) [((k:Nat):Int)] [tth els k] (oneD els k)=treeR els:=
 back_root hn (one_u64 hn hk) (one_may hk) (Agree.refl _ _) rfl (λ m hm=>by
  have hm:m<1:=hm
  obtain rfl:m=0:=by omega
  rfl)
theorem one_check{els:List ByteArray}{k:Nat}(hn:len els≤65536)(hk:k<len els):checkE (treeR els) (len els:Nat) [((k:Nat):Int)] [tth els k] (oneD els k)=0:=by
 have h:=one_back hn hk
 unfold checkE
 rw[h.1,h.2,if_neg (λ h=>h.2 rfl)]
theorem own_capP{w:World}{base n c:Nat}{a:Option Addr}{xs:List Value}{m:Nat}(h:w.ownsRow base 9 1 (.slice a m c) n xs):m≤c∧(a=none→c=0):=by
 rcases h.2 with⟨e,_⟩ | ⟨g,cap,cur,e,_,_,h3,_⟩
 ·injection e with e1 e2 e3;exact⟨by omega,λ _=>e3⟩
 ·injection e with e1 e2 e3;exact⟨by omega,λ e9=>by rw[e9]at e1;cases e1⟩
def TextsAre(L:List ByteArray)(v:Value)(w:World):Prop:=∃a c,v=.slice a (len L) c∧Txts w a L∧len L≤c∧(a=none→c=0)
theorem TextsAre.nil(w:World):TextsAre [] (.slice none 0 0) w:=⟨none,0,rfl,Txts.nil _ _,Nat.le_refl _,λ _=>rfl⟩
theorem TextsAre.own{w:World}{base n:Nat}{v:Value}{L:List ByteArray}(h:w.ownsRow base 9 1 v n (L.map Value.string)):TextsAre L v w:=by
 obtain⟨a,c,rfl,ht⟩:=own_txts h
 obtain⟨h1,h2⟩:=own_capP h
 exact⟨a,c,rfl,ht,h1,h2⟩
end Go.Proofs.YtpobhbdomldecaaGreatDoor
namespace Go.Proofs.YtpobhbdomldecaaGreatDoor
set_option linter.unusedSimpArgs false
set_option linter.unusedVariables false
open Go.RowKit
theorem bits_or_nat(a b:Nat)(ha:a<18446744073709551616)(hb:b<18446744073709551616):bits BinOp.or IntKind.u64 (a:Int) (b:Int)=((a ||| b:Nat):Int):=by
 have h:(a ||| b:Nat)<2 ^ 64:=Nat.or_lt_two_pow (by omega) (by omega)
 unfold bits
 show IntKind.u64.wrap (((BitVec.ofInt 64 (a:Int) ||| BitVec.ofInt 64 (b:Int)).toNat:Nat):Int)=_
 rw[BitVec.toNat_or,BitVec.toNat_ofInt,BitVec.toNat_ofInt]
 have e1:((a:Int) % ((2 ^ 64:Nat):Int)).toNat=a:=by omega
 have e2:((b:Int) % ((2 ^ 64:Nat):Int)).toNat=b:=by omega
 rw[e1,e2]
 exact IntWalk.u64_in _ ⟨by omega,by omega⟩
theorem shl_or(x c:Int)(h0:0≤x)(h1:x≤72057594037927935)(c0:0≤c)(c1:c≤255):bits BinOp.or IntKind.u64 (x * 256) c=x * 256+c:=by
 obtain⟨a,rfl⟩:=Int.eq_ofNat_of_zero_le h0
 obtain⟨b,rfl⟩:=Int.eq_ofNat_of_zero_le c0
 have e:((a:Int) * 256)=((a * 256:Nat):Int):=by omega
 rw[e,bits_or_nat _ _ (by omega) (by omega)]
 have h:a * 256 ||| b=a * 256+b:=by
  have:=Nat.shiftLeft_add_eq_or_of_lt (by omega:b<2 ^ 8) a
  rw[Nat.shiftLeft_eq]at this
  exact this.symm
 rw[h];omega
end Go.Proofs.YtpobhbdomldecaaGreatDoor
namespace Go.Proofs.YtpobhbdomldecaaGreatDoor
set_option linter.unusedSimpArgs false
set_option linter.unusedVariables false
open Go.RowKit
structure URow where
 lo:Int
 hi:Int
 size:Int
 least:Int
def URow.cells(r:URow):List Value:=[.int .u8 r.lo,.int .u8 r.hi,.int .i64 r.size,.int .u64 r.least]
def URow.zero:URow:=⟨0,0,0,0⟩
def unth(l:List URow)(i:Nat):URow:=l.getD i URow.zero
theorem unth_eq(l:List URow)(i:Nat)(h:i<l.length):unth l i=l[i]:=by unfold unth;rw[List.getD_eq_getElem?_getD,List.getElem?_eq_getElem h];rfl
structure URowAt(w:World)(b o:Nat)(r:URow):Prop where
 c0:w.cell? ⟨b,o,none⟩=some (.int .u8 r.lo)
 c1:w.cell? ⟨b,o+1,none⟩=some (.int .u8 r.hi)
 c2:w.cell? ⟨b,o+2,none⟩=some (.int .i64 r.size)
 c3:w.cell? ⟨b,o+3,none⟩=some (.int .u64 r.least)
theorem URowAt.below{w w':World}{b o:Nat}{r:URow}(h:URowAt w b o r)(hb:Below w.heap.size w w'):URowAt w' b o r:=by
 have hl:=lt_of_cell h.c0;have e:∀q,w'.cell? ⟨b,q,none⟩=w.cell? ⟨b,q,none⟩:=λ q=>hb.cell (p:=⟨b,q,none⟩) hl
 obtain⟨c0,c1,c2,c3⟩:=h
 constructor <;> (rw[e];assumption)
def URows(w:World)(a:Option Addr)(l:List URow):Prop:=∀i,i<len l→∃b off,a=some ⟨b,off,none⟩∧URowAt w b (off+i * 4) (unth l i)
theorem URows.below{w w':World}{a:Option Addr}{l:List URow}(h:URows w a l)(hb:Below w.heap.size w w'):URows w' a l:=λ i hi=>by
 obtain⟨b,off,rfl,hc⟩:=h i hi
 exact⟨b,off,rfl,hc.below hb⟩
def byte(s:ByteArray)(i:Nat):Int:=(s.data.toList.getD i 0).toNat
theorem byte_bd(s:ByteArray)(i:Nat):0≤byte s i∧byte s i≤255:=by unfold byte;have:=UInt8.toNat_lt (s.data.toList.getD i 0);omega
theorem ext_size(s:ByteArray){q:Nat}(h:1+q≤s.size):(s.extract 1 (1+q)).size=q:=by simp[ByteArray.size_extract];omega
theorem ext_byte(s:ByteArray){q j:Nat}(h:1+q≤s.size)(hj:j<q):byte (s.extract 1 (1+q)) j=byte s (1+j):=by
 unfold byte
 rw[Lib.extract_data,List.getD_eq_getElem?_getD,List.getD_eq_getElem?_getD,List.getElem?_take,if_pos (by omega),List.getElem?_drop]
theorem conv_bytes(w:World)(s:ByteArray):∃cap w',(convert 9 41 (.string s)).run Tryz.prog w=.ok (.slice (some ⟨w.heap.size,0,none⟩) s.size cap) w'∧Below w.heap.size w w'∧w'.heap.size=w.heap.size+1∧∀j,j<s.size→w'.cell? ⟨w.heap.size,j,none⟩=some (.int .u8 (byte s j)):=by
 have h:Below w.heap.size w (w.drew.alloc (.cells (Lib.bytesCells w 5 s) 5)):=((Below.refl _ _).drew).alloc (by simp) _
 exact⟨_,_,Lib.run_convert_string_bytes w 9 41 5 s Tryz.underlying9 Tryz.underlying41 Tryz.underlying5,⟨h.os,h.tape,h.output,by rw[Lib.bytesWorld_size];omega,λ i hi=>Lib.bytesWorld_at_old _ _ _ _ hi⟩,Lib.bytesWorld_size _ _ _,λ j hj=>Lib.bytesWorld_cell w _ s j hj⟩
def chainOf(k:Int):List PanicEntry:=[{ v:=.iface 27 (.int .i64 k),recovered:=false }]
theorem stop_any(k:Int)(w:World):Calls Tryz.prog 282 #[.int .i64 k] w λ e w'=>e=.panicked (chainOf k)∧w'=w:=by
 go_enter Tryz.func282,Tryz.ntmps282
 go_wp2
 exact⟨rfl,rfl,rfl⟩
def be(s:ByteArray):Nat→Int
 | 0=>0
 | k+1=>be s k * 256+byte s (1+k)
def headOf(s:ByteArray)(rows:List URow):Except Int (Int × ByteArray):=
 if s.size=0 then .error 4
 else match rows.find? (λ r=>decide (r.lo≤byte s 0) && decide (byte s 0≤r.hi))with
  | none=>.error 5
  | some r=>
   if(s.size:Int)<1+r.size then .error 4
   else if(if r.size=0 then byte s 0 - r.lo else be s r.size.toNat)<r.least then .error 5
   else .ok (if r.size=0 then byte s 0 - r.lo else be s r.size.toNat,s.extract (1+r.size.toNat) s.size)
structure URow.Ok(r:URow):Prop where
 lo0:0≤r.lo
 hi1:r.hi≤255
 sz0:0≤r.size
 sz1:r.size≤8
 le0:0≤r.least
 le1:r.least≤4294967296
def HeadIs(res:Except Int (Int × ByteArray))(w:World)(e:Ending)(w':World):Prop:=
 Below w.heap.size w w'∧match res with
  | .ok x=>e=.returned (.agg #[.int .u64 x.1,.string x.2])
  | .error k=>e=.panicked (chainOf k)
theorem headIs_ok{n:Int}{rest:ByteArray}{w w':World}{e:Ending}(h:HeadIs (.ok (n,rest)) w e w'):e=.returned (.agg #[.int .u64 n,.string rest])∧Below w.heap.size w w':=⟨h.2,h.1⟩
theorem headIs_err{k:Int}{w w':World}{e:Ending}(h:HeadIs (.error k) w e w'):e=.panicked (chainOf k)∧Below w.heap.size w w':=⟨h.2,h.1⟩
theorem byte0(s:ByteArray)(h:0<s.size):(s[0].toNat:Int)=byte s 0:=by
 unfold byte
 rw[List.getD_eq_getElem?_getD,List.getElem?_eq_getElem (by simpa using h)];rfl
theorem head_find{s:ByteArray}{l:List URow}{k:Nat}(hk:k<len l)(hn:∀j,j<k→¬((unth l j).lo≤byte s 0∧byte s 0≤(unth l j).hi))(hy:(unth l k).lo≤byte s 0∧byte s 0≤(unth l k).hi):
  l.find? (λ r=>decide (r.lo≤byte s 0) && decide (byte s 0≤r.hi))=some (unth l k):=by
 rw[unth_eq l k hk]at hy ⊢
 rw[List.find?_eq_some_iff_getElem]
 refine⟨by simp[hy],k,hk,rfl,λ j hj=>?_⟩
 have hjl:j<l.length:=Nat.lt_trans hj hk;have:=hn j hj
 rw[unth_eq l j hjl]at this
 simp only[Bool.not_eq_true',Bool.and_eq_false_iff,decide_eq_false_iff_not]
 by_cases h:l[j].lo≤byte s 0
 ·exact .inr λ h2=>this ⟨h,h2⟩
 ·exact .inl h
theorem head_none{s:ByteArray}{l:List URow}(hs:0<s.size)(hn:∀j,j<len l→¬((unth l j).lo≤byte s 0∧byte s 0≤(unth l j).hi)):headOf s l=.error 5:=by
 unfold headOf
 rw[if_neg (by omega)]
 have:l.find? (λ r=>decide (r.lo≤byte s 0) && decide (byte s 0≤r.hi))=none:=by
  rw[List.find?_eq_none]
  intro x hx
  obtain⟨j,hj,rfl⟩:=List.getElem_of_mem hx
  have:=hn j hj
  rw[unth_eq l j hj]at this
  simp only[Bool.and_eq_true,decide_eq_true_eq,not_and]
  exact λ h h2=>this ⟨h,h2⟩
 rw[this]
theorem head_row{s:ByteArray}{l:List URow}{r:URow}(hs:0<s.size)(h:l.find? (λ r=>decide (r.lo≤byte s 0) && decide (byte s 0≤r.hi))=some r):
  headOf s l=if(s.size:Int)<1+r.size then .error 4
   else if(if r.size=0 then byte s 0 - r.lo else be s r.size.toNat)<r.least then .error 5
   else .ok (if r.size=0 then byte s 0 - r.lo else be s r.size.toNat,s.extract (1+r.size.toNat) s.size):=by
 unfold headOf
 rw[if_neg (by omega),h]
def numAt(s:ByteArray)(r:URow)(j:Nat):Int:=if r.size=0 then byte s 0 - r.lo else be s j
theorem be_bd(s:ByteArray):∀j,0≤be s j∧be s j<256 ^ j
 | 0=>⟨by simp[be],by simp[be]⟩
 | j+1=>by
  have:=be_bd s j;have:=byte_bd s (1+j)
  rw[be,Int.pow_succ]
  omega
theorem numAt_bd{s:ByteArray}{r:URow}{j:Nat}(hj:(j:Int)≤8)(h:r.Ok)(hlo:r.lo≤byte s 0):0≤numAt s r j∧numAt s r j≤18446744073709551615:=by
 unfold numAt
 have hb:=byte_bd s 0;have hl:=h.lo0
 split
 ·omega
 ·have h1:=be_bd s j
  have h2:(256:Int) ^ j≤256 ^ 8:=by
   obtain⟨d,hd⟩:∃d,8=j+d:=⟨8 - j,by omega⟩
   rw[hd,Int.pow_add]
   have h3:(0:Int)<256 ^ j:=Int.pow_pos (by decide);have h4:(0:Int)<256 ^ d:=Int.pow_pos (by decide);have h5:=Int.mul_le_mul_of_nonneg_left (show(1:Int)≤256 ^ d by omega) (Int.le_of_lt h3)
   rw[Int.mul_one]at h5;exact h5
  have h5:(256:Int) ^ 8=18446744073709551616:=by decide
  omega
theorem numAt_lt{s:ByteArray}{r:URow}{j:Nat}(hj:j≤7)(h:r.Ok)(hlo:r.lo≤byte s 0):numAt s r j≤72057594037927935:=by
 unfold numAt
 have hb:=byte_bd s 0;have hl:=h.lo0
 split
 ·omega
 ·have h1:=be_bd s j
  have h2:(256:Int) ^ j≤256 ^ 7:=by
   obtain⟨d,hd⟩:∃d,7=j+d:=⟨7 - j,by omega⟩
   rw[hd,Int.pow_add]
   have h3:(0:Int)<256 ^ j:=Int.pow_pos (by decide);have h4:(0:Int)<256 ^ d:=Int.pow_pos (by decide);have h5:=Int.mul_le_mul_of_nonneg_left (show(1:Int)≤256 ^ d by omega) (Int.le_of_lt h3)
   rw[Int.mul_one]at h5;exact h5
  have h5:(256:Int) ^ 7=72057594037927936:=by decide
  omega
theorem numAt_succ(s:ByteArray)(r:URow)(j:Nat)(h:r.size≠0):numAt s r (j+1)=numAt s r j * 256+byte s (1+j):=by
 unfold numAt;rw[if_neg h,if_neg h];rfl
set_option maxRecDepth 100000 in
set_option maxHeartbeats 2000000 in
theorem head_any(s:ByteArray)(a:Option Addr)(cap:Nat)(l:List URow)(w:World)(hs:s.size≤9223372036854775807)(hl0:0<len l)(hl:len l≤100)(hc:URows w a l)(hok:∀i,(unth l i).Ok):
  Calls Tryz.prog 265 #[.string s,.slice a (len l) cap] w (HeadIs (headOf s l) w):=by
 have HC:=Lib.hid hc;have HO:=Lib.hid hok;clear hc hok
 by_cases h0:s.size=0
 ·have he:s.toList.isEmpty=true:=by rw[ByteArray.toList_eq];cases s with | mk d=>simp_all [ByteArray.size]
  have E:Hid (headOf s l=.error 4):=Lib.hid (by unfold headOf;rw[if_pos h0]);clear h0
  go_enter Tryz.func265,Tryz.ntmps265
  go_wp2
  go_step3
  go_wp2_with fail
  refine(stop_any 4 _).mono ?_
  rintro e w1 ⟨rfl,rfl⟩
  go_wp2
  rw[E.out]
  exact⟨rfl,by(repeat (first | exact Below.refl _ _ | assumption | (refine bdrew ?_) | (refine bdrewN ?_ _) | (refine balloc ?_ _) | (refine bset ?_ (by first | omega | (simp;done) | (simp;omega)) _) | (refine bnext ?_ (by assumption)))),rfl⟩
 have he:s.toList.isEmpty=false:=by rw[ByteArray.toList_eq];cases s with | mk d=>simp_all [ByteArray.size]
 have hs0:0<s.size:=by omega
 clear h0
 go_enter Tryz.func265,Tryz.ntmps265
 go_wp2
 go_step3
 go_wp2
 go_step3
 go_wp2
 go_loopw [16] (λ i wr=>∃k:Nat,k<len l∧i=.int .i64 k∧Below w.heap.size w wr∧Hid (∀j,j<k→¬((unth l j).lo≤byte s 0∧byte s 0≤(unth l j).hi))∧
  Hid (wr.heap[w.heap.size]?=some (.cells #[.int .u64 0,.string ⟨#[]⟩] 306 (0,0)))∧Hid (wr.heap[w.heap.size+1]?=some (.cells #[.int .u8 0,.int .u8 0,.int .i64 0,.int .u64 0] 342 (0,0)))) (λ i _=>len l - (intOf i).toNat)
 case atStart=>exact⟨0,hl0,rfl,(by(repeat (first | exact Below.refl _ _ | assumption | (refine bdrew ?_) | (refine bdrewN ?_ _) | (refine balloc ?_ _) | (refine bset ?_ (by first | omega | (simp;done) | (simp;omega)) _) | (refine bnext ?_ (by assumption))))),λ j hj=>absurd hj (by omega),(by(repeat (first | exact alloc_new_at _ (by repeat (first | rfl | refine alloc_size _ ?_)) | refine block_alloc ?_ _))),(by(repeat (first | exact alloc_new_at _ (by repeat (first | rfl | refine alloc_size _ ?_)) | refine block_alloc ?_ _)))⟩
 case round=>
  obtain⟨k,hk,rfl,hd,hn,hB0,hB1⟩:=hrel
  have hlt:=hk
  obtain⟨b,off,rfl,⟨c0,c1,c2,c3⟩⟩:=HC.out.below hd k hlt
  have b0:(k:Int)<len l:=by omega
  have b1:k<len l:=by omega
  obtain⟨z,hz⟩:∃z,z=byte s 0:=⟨_,rfl⟩
  have hz':(s[0].toNat:Int)=z:=by rw[hz];exact byte0 s hs0
  have o1:=HO.out k;have z0:0≤z:=by rw[hz];unfold byte;omega
  have z1:z≤255:=by rw[hz];unfold byte;have:=UInt8.toNat_lt (s.data.toList.getD 0 0);omega
  have HZ:=Lib.hid hz;have sz:w.heap.size+1<wr.heap.size:=lt_of_block hB1.out
  go_wp2_with fail
  obtain⟨W,hW⟩:∃W,wr.alloc (.cells #[.int .u8 (unth l k).lo,.int .u8 (unth l k).hi,.int .i64 (unth l k).size,.int .u64 (unth l k).least] 342)=W:=⟨_,rfl⟩
  have HB0:=Lib.hid (block_alloc hB0.out (.cells #[.int .u8 (unth l k).lo,.int .u8 (unth l k).hi,.int .i64 (unth l k).size,.int .u64 (unth l k).least] 342));have HB1:=Lib.hid (block_alloc hB1.out (.cells #[.int .u8 (unth l k).lo,.int .u8 (unth l k).hi,.int .i64 (unth l k).size,.int .u64 (unth l k).least] 342));have HBN:=Lib.hid (heap_alloc_new wr (.cells #[.int .u8 (unth l k).lo,.int .u8 (unth l k).hi,.int .i64 (unth l k).size,.int .u64 (unth l k).least] 342));have HD:=Lib.hid (balloc hd (.cells #[.int .u8 (unth l k).lo,.int .u8 (unth l k).hi,.int .i64 (unth l k).size,.int .u64 (unth l k).least] 342))
  rw[hW]at HB0 HB1 HBN HD ⊢
  have q0:W.cell? ⟨wr.heap.size,0,none⟩=some (.int .u8 (unth l k).lo):=block_cell HBN.out 0;have q1:W.cell? ⟨wr.heap.size,1,none⟩=some (.int .u8 (unth l k).hi):=block_cell HBN.out 1;clear hW hd hz hB0 hB1 c0 c1 c2 c3
  by_cases m1:(unth l k).lo≤z
  ·have M1:decide ((unth l k).lo≤z)=true:=by simpa using m1
   by_cases m2:z≤(unth l k).hi
   ·obtain⟨x2,hx2⟩:∃x2,x2=true:=⟨_,rfl⟩
    have M2:decide (z≤(unth l k).hi)=x2:=by rw[hx2];simpa using m2
    refine wp_region_all 1000 (none) (phis (List.map qv [.string s,.int .u8 z,.pointer (some ⟨wr.heap.size,0,none⟩),.int .u8 (unth l k).lo,.bool true,.bool true,.string s,.int .u8 z,.pointer (some ⟨wr.heap.size,1,none⟩),.int .u8 (unth l k).hi,.bool x2,.bool x2,.bool x2])) rfl (by kernel_rfl) (mono_of mono_qv) (steps_of 13 ⟨?s0,?s1,?s2,?s3,?s4,?s5,?s6,?s7,?s8,?s9,?s10,?s11,?s12,trivial⟩) ?_
    case s0=>
     refine qV (λ _=>rfl) rfl λ av wv hE hO hD=>?_
     simp[go_sem,qF av 0 (.string s) (hO.2.2 0 rfl),hz',hs0,M1,M2]
    case s1=>
     refine qV (λ _=>rfl) rfl λ av wv hE hO hD=>?_
     simp[go_sem,qE (hD.1 rfl _ rfl),hz',hs0,M1,M2]
    case s2=>
     refine qV (λ _=>rfl) rfl λ av wv hE hO hD=>?_
     simp[go_sem,qF av 7 (.pointer (some ⟨wr.heap.size,0,none⟩)) (hO.2.2 7 rfl),hz',hs0,M1,M2]
    case s3=>
     refine qV (λ _=>rfl) rfl λ av wv hE hO hD=>?_
     simp[go_sem,qE (hD.1 rfl _ rfl),extB_cell hE (by simp) q0,extB_cell hE (by simp) q1,hz',hs0,M1,M2]
    case s4=>
     refine qV (λ _=>rfl) rfl λ av wv hE hO hD=>?_
     simp[go_sem,qE (hD.1 rfl _ rfl),qE (hD.2.1 rfl _ rfl),hz',hs0,M1,M2]
    case s5=>
     refine qV (λ _=>rfl) rfl λ av wv hE hO hD=>?_
     simp[go_sem,qE (hD.1 rfl _ rfl),hz',hs0,M1,M2]
    case s6=>
     refine step_val (λ av wv hE hS hO hD=>⟨(wY rfl rfl rfl (hD.1 rfl _ rfl)),?_⟩) (λ _=>rfl)
     simp[go_sem,qF av 0 (.string s) (hO.2.2 0 rfl),qE (hD.1 rfl _ rfl),hz',hs0,M1,M2]
    case s7=>
     refine step_val (λ av wv hE hS hO hD=>⟨(wY rfl rfl rfl (hD.2.1 rfl _ rfl)),?_⟩) (λ _=>rfl)
     simp[go_sem,qE (hD.1 rfl _ rfl),qE (hD.2.1 rfl _ rfl),hz',hs0,M1,M2]
    case s8=>
     refine step_val (λ av wv hE hS hO hD=>⟨(wY rfl rfl rfl (hD.1 rfl _ rfl)),?_⟩) (λ _=>rfl)
     simp[go_sem,qF av 7 (.pointer (some ⟨wr.heap.size,0,none⟩)) (hO.2.2 7 rfl),qE (hD.1 rfl _ rfl),hz',hs0,M1,M2]
    case s9=>
     refine step_val (λ av wv hE hS hO hD=>⟨(wY rfl rfl rfl (hD.2.1 rfl _ rfl)),?_⟩) (λ _=>rfl)
     simp[go_sem,qE (hD.1 rfl _ rfl),qE (hD.2.1 rfl _ rfl),extB_cell hE (by simp) q0,extB_cell hE (by simp) q1,hz',hs0,M1,M2]
    case s10=>
     refine step_val (λ av wv hE hS hO hD=>⟨(wY rfl rfl rfl (hD.2.2.1 rfl _ rfl)),?_⟩) (λ _=>rfl)
     simp[go_sem,qE (hD.1 rfl _ rfl),qE (hD.2.1 rfl _ rfl),qE (hD.2.2.1 rfl _ rfl),hz',hs0,M1,M2]
    case s11=>
     refine qV (λ _=>rfl) rfl λ av wv hE hO hD=>?_
     simp[go_sem,qE (hD.1 rfl _ rfl),qE (hD.2.1 rfl _ rfl),hz',hs0,M1,M2]
    case s12=>
     refine qV (λ _=>rfl) rfl λ av wv hE hO hD=>?_
     simp[go_sem,qE (hD.1 rfl _ rfl),hz',hs0,M1,M2]
    intro a' w' hE hO hall
    have hA:=act_of_outer (ds:=[22,23,24,25,26,27,28,29,30,31,32,33,21]) rfl hO (by kernel_rfl)
    obtain⟨j0,j1,j2,j3,j4,j5,j6,j7,j8,j9,j10,j11,j12,-⟩:=hall
    simp only[List.foldl_cons,List.foldl_nil,Act.put,List.setIfInBounds_toArray,List.set_cons_succ,List.set_cons_zero,qJ 22 (j0 _ rfl),qJ 23 (j1 _ rfl),qJ 24 (j2 _ rfl),qJ 25 (j3 _ rfl),qJ 26 (j4 _ rfl),qJ 27 (j5 _ rfl),qJ 28 (j6 _ rfl),qJ 29 (j7 _ rfl),qJ 30 (j8 _ rfl),qJ 31 (j9 _ rfl),qJ 32 (j10 _ rfl),qJ 33 (j11 _ rfl),qJ 21 (j12 _ rfl)]at hA
    clear hO j0 j1 j2 j3 j4 j5 j6 j7 j8 j9 j10 j11 j12
    subst hA
    have F:Hid (l.find? (λ r=>decide (r.lo≤byte s 0) && decide (byte s 0≤r.hi))=some (unth l k)):=Lib.hid (head_find b1 hn.out (by rw[←HZ.out];exact⟨m1,m2⟩))
    subst hx2
    have B7:=Lib.hid (bnext HD.out (of_drew hE));have X0:=Lib.hid (extB_block hE (by simp) HB0.out);have X1:=Lib.hid (extB_block hE (by simp) HB1.out);have XN:=Lib.hid (extB_block hE (by simp) HBN.out);clear hE hn M1 M2 m2 q0 q1
    obtain⟨r,hr⟩:∃r,unth l k=r:=⟨_,rfl⟩
    rw[hr]at XN F o1 m1
    have FR:=Lib.hid (head_row hs0 F.out);have p0:w'.cell? ⟨wr.heap.size,0,none⟩=some (.int .u8 r.lo):=block_cell XN.out 0;have p1:w'.cell? ⟨wr.heap.size,1,none⟩=some (.int .u8 r.hi):=block_cell XN.out 1;have p2:w'.cell? ⟨wr.heap.size,2,none⟩=some (.int .i64 r.size):=block_cell XN.out 2;have p3:w'.cell? ⟨wr.heap.size,3,none⟩=some (.int .u64 r.least):=block_cell XN.out 3;have x0:=block_cell X1.out;have x1:=block_free X1.out;clear hr
    go_upto_region 12 with fail
    obtain⟨V,hV⟩:∃V,(((w'.setCell ⟨w.heap.size+1,0,none⟩ (.int .u8 r.lo)).setCell ⟨w.heap.size+1,1,none⟩ (.int .u8 r.hi)).setCell ⟨w.heap.size+1,2,none⟩ (.int .i64 r.size)).setCell ⟨w.heap.size+1,3,none⟩ (.int .u64 r.least)=V:=⟨_,rfl⟩
    have VB:Hid (Below w.heap.size w V):=Lib.hid (by rw[←hV];exact bset (bset (bset (bset B7.out (by simp) _) (by simp) _) (by simp) _) (by simp) _);have V0:Hid (V.heap[w.heap.size]?=some (.cells #[.int .u64 0,.string ⟨#[]⟩] 306 (0,0))):=Lib.hid (by
     rw[←hV];exact block_setCell_ne (block_setCell_ne (block_setCell_ne (block_setCell_ne X0.out (by simp) _) (by simp) _) (by simp) _) (by simp) _)
    have V1:V.heap[w.heap.size+1]?=some (.cells #[.int .u8 r.lo,.int .u8 r.hi,.int .i64 r.size,.int .u64 r.least] 342 (0,0)):=by
     rw[←hV];exact block_setCell (block_setCell (block_setCell (block_setCell X1.out _) _) _) _
    rw[hV]
    have v0:V.cell? ⟨w.heap.size+1,0,none⟩=some (.int .u8 r.lo):=block_cell V1 0;have v2:V.cell? ⟨w.heap.size+1,2,none⟩=some (.int .i64 r.size):=block_cell V1 2;have v3:V.cell? ⟨w.heap.size+1,3,none⟩=some (.int .u64 r.least):=block_cell V1 3;have HV1:=Lib.hid V1;clear hV V1 p0 p1 p2 p3 x0 x1 HB0 HB1 HBN X0 X1 XN B7 HD HC hlt b0 b1 hk;have k1:=o1.sz0;have k2:=o1.sz1;have k3:=o1.lo0;have i1:IntKind.i64.wrap (1+r.size)=1+r.size:=IntWalk.i64_in _ (by omega)
    by_cases c1:(s.size:Int)<1+r.size
    ·have E:Hid (headOf s l=.error 4):=Lib.hid (by rw[FR.out,if_pos c1])
     go_wp2_with fail
     refine(stop_any 4 _).mono ?_
     rintro e w1 ⟨rfl,rfl⟩
     go_wp2
     rw[E.out]
     exact⟨rfl,VB.out,rfl⟩
    ·have i2:IntKind.u8.wrap (z - r.lo)=z - r.lo:=IntWalk.u8_in _ (by omega)
     have i3:IntKind.u64.wrap (z - r.lo)=z - r.lo:=IntWalk.u64_in _ (by omega)
     obtain⟨q,hq⟩:∃q:Nat,r.size=q:=⟨r.size.toNat,by omega⟩
     by_cases c2:r.size=0
     ·have c2':(r.size == 0)=true:=by simpa using c2
      have HQ:=Lib.hid hq;have C2:=Lib.hid c2;clear hq c2
      go_upto_region 16 with fail
      refine wp_region_all 1000 (none) (phis (List.map qv [.string s,.int .u8 z,.pointer (some ⟨w.heap.size+1,0,none⟩),.int .u8 r.lo,.int .u8 (z - r.lo),.int .u64 (z - r.lo),.int .u64 (z - r.lo)])) rfl (by kernel_rfl) (mono_of mono_qv) (steps_of 7 ⟨?s0,?s1,?s2,?s3,?s4,?s5,?s6,trivial⟩) ?_
      case s0=>
       refine qV (λ _=>rfl) rfl λ av wv hE hO hD=>?_
       simp[go_sem,qF av 0 (.string s) (hO.2.2 0 rfl),hz',hs0,i2,i3]
      case s1=>
       refine qV (λ _=>rfl) rfl λ av wv hE hO hD=>?_
       simp[go_sem,qE (hD.1 rfl _ rfl),hz',hs0,i2,i3]
      case s2=>
       refine qV (λ _=>rfl) rfl λ av wv hE hO hD=>?_
       simp[go_sem,qF av 5 (.pointer (some ⟨w.heap.size+1,0,none⟩)) (hO.2.2 5 rfl),hz',hs0,i2,i3]
      case s3=>
       refine qV (λ _=>rfl) rfl λ av wv hE hO hD=>?_
       simp[go_sem,qE (hD.1 rfl _ rfl),extB_cell hE (by simp) v0,hz',hs0,i2,i3]
      case s4=>
       refine qV (λ _=>rfl) rfl λ av wv hE hO hD=>?_
       simp[go_sem,qE (hD.1 rfl _ rfl),qE (hD.2.1 rfl _ rfl),hz',hs0,i2,i3]
      case s5=>
       refine qV (λ _=>rfl) rfl λ av wv hE hO hD=>?_
       simp[go_sem,qE (hD.1 rfl _ rfl),hz',hs0,i2,i3]
      case s6=>
       refine qV (λ _=>rfl) rfl λ av wv hE hO hD=>?_
       simp[go_sem,qE (hD.1 rfl _ rfl),hz',hs0,i2,i3]
      intro a' w' hE hO hall
      have hA:=act_of_outer (ds:=[53,54,55,56,57,58,8]) rfl hO (by kernel_rfl)
      obtain⟨j0,j1,j2,j3,j4,j5,j6,-⟩:=hall
      simp only[List.foldl_cons,List.foldl_nil,Act.put,List.setIfInBounds_toArray,List.set_cons_succ,List.set_cons_zero,qJ 53 (j0 _ rfl),qJ 54 (j1 _ rfl),qJ 55 (j2 _ rfl),qJ 56 (j3 _ rfl),qJ 57 (j4 _ rfl),qJ 58 (j5 _ rfl),qJ 8 (j6 _ rfl)]at hA
      clear hO j0 j1 j2 j3 j4 j5 j6
      subst hA
      have VB2:=Lib.hid (bnext VB.out (of_drew hE));have V12:=Lib.hid (extB_block hE (by simp) HV1.out);have V02:=Lib.hid (extB_block hE (by simp) V0.out);have v2:w'.cell? ⟨w.heap.size+1,2,none⟩=some (.int .i64 r.size):=block_cell V12.out 2;clear hE VB V0 HV1 v0 v3 i2 i3
      go_upto_region 17 with fail
      have qs:1+q≤s.size:=by have:=HQ.out;omega
      have hxs:(s.extract 1 (1+q)).size=q:=ext_size s qs
      obtain⟨bc,Y,hcv,hY1,hY2,hY3⟩:=conv_bytes w' (s.extract 1 (1+q))
      rw[hxs]at hcv hY3
      have HY3:Hid (∀j,j<q→Y.cell? ⟨(World.heap w').size,j,none⟩=some (.int .u8 (byte s (1+j)))):=Lib.hid (λ j hj=>by rw[hY3 j hj,ext_byte s qs hj]);have YB:=Lib.hid (bnext VB2.out hY1);have Y1:=Lib.hid ((hY1.block _ (lt_of_block V12.out)).trans V12.out);have Y0:=Lib.hid ((hY1.block _ (lt_of_block V02.out)).trans V02.out);have YS:w.heap.size+1<Y.heap.size:=lt_of_block Y1.out;clear hY1 hY2 hY3 hxs;have i5:(1+r.size).toNat=1+q:=by have:=HQ.out;omega
      have i6:r.size.toNat=q:=by have:=HQ.out;omega
      have q8:q≤8:=by have:=HQ.out;omega
      have j1:1≤(s.size:Int):=by omega
      have j2:1+r.size≤(s.size:Int):=by omega
      have j3:1≤1+r.size:=by omega
      go_wp2_with fail
      clear hcv
      go_loopg [8,66] q (λ g n i wx=>∃j:Nat,g+j=q∧i=.int .i64 j∧n=.int .u64 (numAt s r j)∧wx=Y)
      case atStart=>exact⟨0,rfl,rfl,(by unfold numAt;rw[if_pos C2.out,←HZ.out]),rfl⟩
      case round=>
       obtain⟨j,hj,rfl,rfl,rfl⟩:=hrel
       have vb:=numAt_bd (s:=s) (r:=r) (j:=j) (by have:=HQ.out;omega) o1 (by rw[←HZ.out];exact m1)
       by_cases hjq:j<q
       ·have b0:(j:Int)<q:=by omega
        have cc:=HY3.out j hjq;have vs:=Lib.hid (numAt_succ s r j (by have:=HQ.out;omega));have cb:=byte_bd s (1+j);have vb2:=numAt_lt (s:=s) (r:=r) (j:=j) (by omega) o1 (by rw[←HZ.out];exact m1)
        obtain⟨c,hc⟩:∃c,byte s (1+j)=c:=⟨_,rfl⟩
        obtain⟨v,hv⟩:∃v,numAt s r j=v:=⟨_,rfl⟩
        rw[hc]at cc cb
        rw[hv]at vb vb2
        have hor:=shl_or v c vb.1 vb2 cb.1 cb.2
        go_wp2
        go_roundg (gk - 1)
        case rel=>exact⟨j+1,by omega,by go_num,(by rw[vs.out,hv,hc,←hor]),rfl⟩
        case measure=>omega
       ·obtain rfl:j=q:=by omega
        have E0:headOf s l=if numAt s r j<r.least then .error 5 else .ok (numAt s r j,s.extract (1+j) s.size):=by
         rw[FR.out,if_neg (by omega),i6];rfl
        obtain⟨v,hv⟩:∃v,numAt s r j=v:=⟨_,rfl⟩
        rw[hv]at vb E0 ⊢
        have g2:wr.cell? ⟨w.heap.size+1,2,none⟩=some (.int .i64 r.size):=block_cell Y1.out 2;have g3:wr.cell? ⟨w.heap.size+1,3,none⟩=some (.int .u64 r.least):=block_cell Y1.out 3;have y0:∀o,wr.cell? ⟨w.heap.size,o,none⟩=_:=block_cell Y0.out;have y1:∀o,wr.frozen? ⟨w.heap.size,o,none⟩=false:=block_free Y0.out;clear hv
        by_cases hv:v<r.least
        ·have E:Hid (headOf s l=.error 5):=Lib.hid (by rw[E0,if_pos hv])
         clear E0
         go_wp2_with fail
         refine(stop_any 5 _).mono ?_
         rintro e w1 ⟨rfl,rfl⟩
         go_wp2
         rw[E.out]
         exact⟨rfl,YB.out,rfl⟩
        ·have E:Hid (headOf s l=.ok (v,s.extract (1+j) s.size)):=Lib.hid (by rw[E0,if_neg hv])
         clear E0
         go_wp2_with fail
         try rw[Exit.noGoto_ret]
         refine bodyPost_ret (v:=.agg #[.int .u64 v,.string (s.extract (1+j) s.size)]) (by simp[results,Tryz.results265,go_sem,y0]) rfl ?_
         rw[E.out]
         exact⟨(by have:=YB.out;(repeat (first | exact Below.refl _ _ | assumption | (refine bdrew ?_) | (refine bdrewN ?_ _) | (refine balloc ?_ _) | (refine bset ?_ (by first | omega | (simp;done) | (simp;omega)) _) | (refine bnext ?_ (by assumption))))),rfl⟩
     ·have c2':(r.size == 0)=false:=by simpa using c2
      have HQ:=Lib.hid hq;have C2:=Lib.hid c2;clear hq c2;have qs:1+q≤s.size:=by have:=HQ.out;omega
      have hxs:(s.extract 1 (1+q)).size=q:=ext_size s qs
      obtain⟨bc,Y,hcv,hY1,hY2,hY3⟩:=conv_bytes V (s.extract 1 (1+q))
      rw[hxs]at hcv hY3
      have HY3:Hid (∀j,j<q→Y.cell? ⟨(World.heap V).size,j,none⟩=some (.int .u8 (byte s (1+j)))):=Lib.hid (λ j hj=>by rw[hY3 j hj,ext_byte s qs hj]);have YB:=Lib.hid (bnext VB.out hY1);have Y1:=Lib.hid ((hY1.block _ (lt_of_block HV1.out)).trans HV1.out);have Y0:=Lib.hid ((hY1.block _ (lt_of_block V0.out)).trans V0.out);have YS:w.heap.size+1<Y.heap.size:=lt_of_block Y1.out;clear hY1 hY2 hY3 hxs;have i5:(1+r.size).toNat=1+q:=by have:=HQ.out;omega
      have i6:r.size.toNat=q:=by have:=HQ.out;omega
      have q8:q≤8:=by have:=HQ.out;omega
      have j1:1≤(s.size:Int):=by omega
      have j2:1+r.size≤(s.size:Int):=by omega
      have j3:1≤1+r.size:=by omega
      go_wp2_with fail
      clear hcv
      go_loopg [8,66] q (λ g n i wx=>∃j:Nat,g+j=q∧i=.int .i64 j∧n=.int .u64 (numAt s r j)∧wx=Y)
      case atStart=>exact⟨0,rfl,rfl,(by unfold numAt;rw[if_neg C2.out];rfl),rfl⟩
      case round=>
       obtain⟨j,hj,rfl,rfl,rfl⟩:=hrel
       have vb:=numAt_bd (s:=s) (r:=r) (j:=j) (by have:=HQ.out;omega) o1 (by rw[←HZ.out];exact m1)
       by_cases hjq:j<q
       ·have b0:(j:Int)<q:=by omega
        have cc:=HY3.out j hjq;have vs:=Lib.hid (numAt_succ s r j (by have:=HQ.out;omega));have cb:=byte_bd s (1+j);have vb2:=numAt_lt (s:=s) (r:=r) (j:=j) (by omega) o1 (by rw[←HZ.out];exact m1)
        obtain⟨c,hc⟩:∃c,byte s (1+j)=c:=⟨_,rfl⟩
        obtain⟨v,hv⟩:∃v,numAt s r j=v:=⟨_,rfl⟩
        rw[hc]at cc cb
        rw[hv]at vb vb2
        have hor:=shl_or v c vb.1 vb2 cb.1 cb.2
        go_wp2
        go_roundg (gk - 1)
        case rel=>exact⟨j+1,by omega,by go_num,(by rw[vs.out,hv,hc,←hor]),rfl⟩
        case measure=>omega
       ·obtain rfl:j=q:=by omega
        have E0:headOf s l=if numAt s r j<r.least then .error 5 else .ok (numAt s r j,s.extract (1+j) s.size):=by
         rw[FR.out,if_neg (by omega),i6];rfl
        obtain⟨v,hv⟩:∃v,numAt s r j=v:=⟨_,rfl⟩
        rw[hv]at vb E0 ⊢
        have g2:wr.cell? ⟨w.heap.size+1,2,none⟩=some (.int .i64 r.size):=block_cell Y1.out 2;have g3:wr.cell? ⟨w.heap.size+1,3,none⟩=some (.int .u64 r.least):=block_cell Y1.out 3;have y0:∀o,wr.cell? ⟨w.heap.size,o,none⟩=_:=block_cell Y0.out;have y1:∀o,wr.frozen? ⟨w.heap.size,o,none⟩=false:=block_free Y0.out;clear hv
        by_cases hv:v<r.least
        ·have E:Hid (headOf s l=.error 5):=Lib.hid (by rw[E0,if_pos hv])
         clear E0
         go_wp2_with fail
         refine(stop_any 5 _).mono ?_
         rintro e w1 ⟨rfl,rfl⟩
         go_wp2
         rw[E.out]
         exact⟨rfl,YB.out,rfl⟩
        ·have E:Hid (headOf s l=.ok (v,s.extract (1+j) s.size)):=Lib.hid (by rw[E0,if_neg hv])
         clear E0
         go_wp2_with fail
         try rw[Exit.noGoto_ret]
         refine bodyPost_ret (v:=.agg #[.int .u64 v,.string (s.extract (1+j) s.size)]) (by simp[results,Tryz.results265,go_sem,y0]) rfl ?_
         rw[E.out]
         exact⟨(by have:=YB.out;(repeat (first | exact Below.refl _ _ | assumption | (refine bdrew ?_) | (refine bdrewN ?_ _) | (refine balloc ?_ _) | (refine bset ?_ (by first | omega | (simp;done) | (simp;omega)) _) | (refine bnext ?_ (by assumption))))),rfl⟩
   ·obtain⟨x2,hx2⟩:∃x2,x2=false:=⟨_,rfl⟩
    have M2:decide (z≤(unth l k).hi)=x2:=by rw[hx2];simpa using m2
    refine wp_region_all 1000 (none) (phis (List.map qv [.string s,.int .u8 z,.pointer (some ⟨wr.heap.size,0,none⟩),.int .u8 (unth l k).lo,.bool true,.bool true,.string s,.int .u8 z,.pointer (some ⟨wr.heap.size,1,none⟩),.int .u8 (unth l k).hi,.bool x2,.bool x2,.bool x2])) rfl (by kernel_rfl) (mono_of mono_qv) (steps_of 13 ⟨?s0,?s1,?s2,?s3,?s4,?s5,?s6,?s7,?s8,?s9,?s10,?s11,?s12,trivial⟩) ?_
    case s0=>
     refine qV (λ _=>rfl) rfl λ av wv hE hO hD=>?_
     simp[go_sem,qF av 0 (.string s) (hO.2.2 0 rfl),hz',hs0,M1,M2]
    case s1=>
     refine qV (λ _=>rfl) rfl λ av wv hE hO hD=>?_
     simp[go_sem,qE (hD.1 rfl _ rfl),hz',hs0,M1,M2]
    case s2=>
     refine qV (λ _=>rfl) rfl λ av wv hE hO hD=>?_
     simp[go_sem,qF av 7 (.pointer (some ⟨wr.heap.size,0,none⟩)) (hO.2.2 7 rfl),hz',hs0,M1,M2]
    case s3=>
     refine qV (λ _=>rfl) rfl λ av wv hE hO hD=>?_
     simp[go_sem,qE (hD.1 rfl _ rfl),extB_cell hE (by simp) q0,extB_cell hE (by simp) q1,hz',hs0,M1,M2]
    case s4=>
     refine qV (λ _=>rfl) rfl λ av wv hE hO hD=>?_
     simp[go_sem,qE (hD.1 rfl _ rfl),qE (hD.2.1 rfl _ rfl),hz',hs0,M1,M2]
    case s5=>
     refine qV (λ _=>rfl) rfl λ av wv hE hO hD=>?_
     simp[go_sem,qE (hD.1 rfl _ rfl),hz',hs0,M1,M2]
    case s6=>
     refine step_val (λ av wv hE hS hO hD=>⟨(wY rfl rfl rfl (hD.1 rfl _ rfl)),?_⟩) (λ _=>rfl)
     simp[go_sem,qF av 0 (.string s) (hO.2.2 0 rfl),qE (hD.1 rfl _ rfl),hz',hs0,M1,M2]
    case s7=>
     refine step_val (λ av wv hE hS hO hD=>⟨(wY rfl rfl rfl (hD.2.1 rfl _ rfl)),?_⟩) (λ _=>rfl)
     simp[go_sem,qE (hD.1 rfl _ rfl),qE (hD.2.1 rfl _ rfl),hz',hs0,M1,M2]
    case s8=>
     refine step_val (λ av wv hE hS hO hD=>⟨(wY rfl rfl rfl (hD.1 rfl _ rfl)),?_⟩) (λ _=>rfl)
     simp[go_sem,qF av 7 (.pointer (some ⟨wr.heap.size,0,none⟩)) (hO.2.2 7 rfl),qE (hD.1 rfl _ rfl),hz',hs0,M1,M2]
    case s9=>
     refine step_val (λ av wv hE hS hO hD=>⟨(wY rfl rfl rfl (hD.2.1 rfl _ rfl)),?_⟩) (λ _=>rfl)
     simp[go_sem,qE (hD.1 rfl _ rfl),qE (hD.2.1 rfl _ rfl),extB_cell hE (by simp) q0,extB_cell hE (by simp) q1,hz',hs0,M1,M2]
    case s10=>
     refine step_val (λ av wv hE hS hO hD=>⟨(wY rfl rfl rfl (hD.2.2.1 rfl _ rfl)),?_⟩) (λ _=>rfl)
     simp[go_sem,qE (hD.1 rfl _ rfl),qE (hD.2.1 rfl _ rfl),qE (hD.2.2.1 rfl _ rfl),hz',hs0,M1,M2]
    case s11=>
     refine qV (λ _=>rfl) rfl λ av wv hE hO hD=>?_
     simp[go_sem,qE (hD.1 rfl _ rfl),qE (hD.2.1 rfl _ rfl),hz',hs0,M1,M2]
    case s12=>
     refine qV (λ _=>rfl) rfl λ av wv hE hO hD=>?_
     simp[go_sem,qE (hD.1 rfl _ rfl),hz',hs0,M1,M2]
    intro a' w' hE hO hall
    have hA:=act_of_outer (ds:=[22,23,24,25,26,27,28,29,30,31,32,33,21]) rfl hO (by kernel_rfl)
    obtain⟨j0,j1,j2,j3,j4,j5,j6,j7,j8,j9,j10,j11,j12,-⟩:=hall
    simp only[List.foldl_cons,List.foldl_nil,Act.put,List.setIfInBounds_toArray,List.set_cons_succ,List.set_cons_zero,qJ 22 (j0 _ rfl),qJ 23 (j1 _ rfl),qJ 24 (j2 _ rfl),qJ 25 (j3 _ rfl),qJ 26 (j4 _ rfl),qJ 27 (j5 _ rfl),qJ 28 (j6 _ rfl),qJ 29 (j7 _ rfl),qJ 30 (j8 _ rfl),qJ 31 (j9 _ rfl),qJ 32 (j10 _ rfl),qJ 33 (j11 _ rfl),qJ 21 (j12 _ rfl)]at hA
    clear hO j0 j1 j2 j3 j4 j5 j6 j7 j8 j9 j10 j11 j12
    subst hA
    have NM:Hid (¬((unth l k).lo≤byte s 0∧byte s 0≤(unth l k).hi)):=Lib.hid (by rw[←HZ.out];exact λ h=>m2 h.2)
    subst hx2
    clear M1 M2 m1 m2 q0 q1;have B7:=Lib.hid (bnext HD.out (of_drew hE));have X0:=Lib.hid (extB_block hE (by simp) HB0.out);have X1:=Lib.hid (extB_block hE (by simp) HB1.out);clear hE
    by_cases hlast:k+1=len l
    ·have e1:((k:Int) == (len l:Int) - 1)=true:=by simp;omega
     have e2:IntKind.i64.wrap ((len l:Int) - 1)=(len l:Int) - 1:=IntWalk.i64_in _ (by omega);have E:Hid (headOf s l=.error 5):=Lib.hid (head_none (by omega) (λ j hj=>by
      by_cases e:j=k
      ·subst e;exact NM.out
      ·exact hn.out j (by omega)))
     go_wp2_with fail
     refine(stop_any 5 _).mono ?_
     rintro e w1 ⟨rfl,rfl⟩
     go_wp2
     rw[E.out]
     exact⟨rfl,B7.out,rfl⟩
    ·have e1:((k:Int) == (len l:Int) - 1)=false:=by simp;omega
     have e2:IntKind.i64.wrap ((len l:Int) - 1)=(len l:Int) - 1:=IntWalk.i64_in _ (by omega)
     go_wp2
     go_roundw
     case rel=>exact⟨k+1,by omega,by go_num,B7.out,(λ j hj=>by
      by_cases e:j=k
      ·subst e;exact NM.out
      ·exact hn.out j (by omega)),X0.out,X1.out⟩
     case measure=>simp[intOf];omega
  ·have M1:decide ((unth l k).lo≤z)=false:=by simpa using m1
   refine wp_region_all 1000 (none) (phis (List.map qv [.string s,.int .u8 z,.pointer (some ⟨wr.heap.size,0,none⟩),.int .u8 (unth l k).lo,.bool false,.bool false,undef,undef,undef,undef,undef,.bool false,.bool false])) rfl (by kernel_rfl) (mono_of mono_qv) (steps_of 13 ⟨?s0,?s1,?s2,?s3,?s4,?s5,qS (λ av wv hD=>(wN rfl rfl rfl (hD.1 rfl _ rfl) rfl)) (λ _=>rfl),qS (λ av wv hD=>(wN rfl rfl rfl (hD.2.1 rfl _ rfl) rfl)) (λ _=>rfl),qS (λ av wv hD=>(wN rfl rfl rfl (hD.1 rfl _ rfl) rfl)) (λ _=>rfl),qS (λ av wv hD=>(wN rfl rfl rfl (hD.2.1 rfl _ rfl) rfl)) (λ _=>rfl),qS (λ av wv hD=>(wN rfl rfl rfl (hD.2.2.1 rfl _ rfl) rfl)) (λ _=>rfl),?s11,?s12,trivial⟩) ?_
   case s0=>
    refine qV (λ _=>rfl) rfl λ av wv hE hO hD=>?_
    simp[go_sem,qF av 0 (.string s) (hO.2.2 0 rfl),hz',hs0,M1]
   case s1=>
    refine qV (λ _=>rfl) rfl λ av wv hE hO hD=>?_
    simp[go_sem,qE (hD.1 rfl _ rfl),hz',hs0,M1]
   case s2=>
    refine qV (λ _=>rfl) rfl λ av wv hE hO hD=>?_
    simp[go_sem,qF av 7 (.pointer (some ⟨wr.heap.size,0,none⟩)) (hO.2.2 7 rfl),hz',hs0,M1]
   case s3=>
    refine qV (λ _=>rfl) rfl λ av wv hE hO hD=>?_
    simp[go_sem,qE (hD.1 rfl _ rfl),extB_cell hE (by simp) q0,extB_cell hE (by simp) q1,hz',hs0,M1]
   case s4=>
    refine qV (λ _=>rfl) rfl λ av wv hE hO hD=>?_
    simp[go_sem,qE (hD.1 rfl _ rfl),qE (hD.2.1 rfl _ rfl),hz',hs0,M1]
   case s5=>
    refine qV (λ _=>rfl) rfl λ av wv hE hO hD=>?_
    simp[go_sem,qE (hD.1 rfl _ rfl),hz',hs0,M1]
   case s11=>
    refine qV (λ _=>rfl) rfl λ av wv hE hO hD=>?_
    simp[go_sem,qE (hD.1 rfl _ rfl),qE (hD.2.1 rfl _ rfl),hz',hs0,M1]
   case s12=>
    refine qV (λ _=>rfl) rfl λ av wv hE hO hD=>?_
    simp[go_sem,qE (hD.1 rfl _ rfl),hz',hs0,M1]
   intro a' w' hE hO hall
   have hA:=act_of_outer (ds:=[22,23,24,25,26,27,28,29,30,31,32,33,21]) rfl hO (by kernel_rfl)
   obtain⟨j0,j1,j2,j3,j4,j5,j6,j7,j8,j9,j10,j11,j12,-⟩:=hall
   simp only[List.foldl_cons,List.foldl_nil,Act.put,List.setIfInBounds_toArray,List.set_cons_succ,List.set_cons_zero,qJ 22 (j0 _ rfl),qJ 23 (j1 _ rfl),qJ 24 (j2 _ rfl),qJ 25 (j3 _ rfl),qJ 26 (j4 _ rfl),qJ 27 (j5 _ rfl),qJ 28 (j6 _ rfl),qJ 29 (j7 _ rfl),qJ 30 (j8 _ rfl),qJ 31 (j9 _ rfl),qJ 32 (j10 _ rfl),qJ 33 (j11 _ rfl),qJ 21 (j12 _ rfl)]at hA
   clear hO j0 j1 j2 j3 j4 j5 j6 j7 j8 j9 j10 j11 j12
   subst hA
   have NM:Hid (¬((unth l k).lo≤byte s 0∧byte s 0≤(unth l k).hi)):=Lib.hid (by rw[←HZ.out];exact λ h=>m1 h.1);clear M1 m1 q0 q1;have B7:=Lib.hid (bnext HD.out (of_drew hE));have X0:=Lib.hid (extB_block hE (by simp) HB0.out);have X1:=Lib.hid (extB_block hE (by simp) HB1.out);clear hE
   by_cases hlast:k+1=len l
   ·have e1:((k:Int) == (len l:Int) - 1)=true:=by simp;omega
    have e2:IntKind.i64.wrap ((len l:Int) - 1)=(len l:Int) - 1:=IntWalk.i64_in _ (by omega);have E:Hid (headOf s l=.error 5):=Lib.hid (head_none (by omega) (λ j hj=>by
     by_cases e:j=k
     ·subst e;exact NM.out
     ·exact hn.out j (by omega)))
    go_wp2_with fail
    refine(stop_any 5 _).mono ?_
    rintro e w1 ⟨rfl,rfl⟩
    go_wp2
    rw[E.out]
    exact⟨rfl,B7.out,rfl⟩
   ·have e1:((k:Int) == (len l:Int) - 1)=false:=by simp;omega
    have e2:IntKind.i64.wrap ((len l:Int) - 1)=(len l:Int) - 1:=IntWalk.i64_in _ (by omega)
    go_wp2
    go_roundw
    case rel=>exact⟨k+1,by omega,by go_num,B7.out,(λ j hj=>by
     by_cases e:j=k
     ·subst e;exact NM.out
     ·exact hn.out j (by omega)),X0.out,X1.out⟩
    case measure=>simp[intOf];omega
end Go.Proofs.YtpobhbdomldecaaGreatDoor
namespace Go.Proofs.YtpobhbdomldecaaGreatDoor
set_option linter.unusedSimpArgs false
set_option linter.unusedVariables false
open Go.RowKit
def RdB(w:World)(b:Nat)(s:ByteArray)(a most:Int):Prop:=w.heap[b]?=some (.cells #[.string s,.int .i64 a,.int .i64 most] 282 (0,0))
theorem RdB.below{w w':World}{b:Nat}{s:ByteArray}{a most:Int}(h:RdB w b s a most)(hb:Below w.heap.size w w'):RdB w' b s a most:=(hb.block _ (lt_of_block h)).trans h
theorem place_any(w:World)(b:Nat)(s:ByteArray)(a most:Int)(h:RdB w b s a most):
  Calls Tryz.prog 292 #[.pointer (some ⟨b,0,none⟩)] w λ e w'=>e=.returned (.int .i64 a)∧w'=w:=by
 have c1:w.cell? ⟨b,1,none⟩=some (.int .i64 a):=block_cell h 1;clear h
 go_enter Tryz.func292,Tryz.ntmps292
 go_wp2
 go_ret
 exact⟨rfl,rfl⟩
set_option maxRecDepth 100000 in
set_option maxHeartbeats 1000000 in
theorem here_any(w:World)(b:Nat)(s:ByteArray)(a:Nat)(most:Int)(h:RdB w b s a most)(ha:a≤s.size)(hs:s.size≤9223372036854775807):
  Calls Tryz.prog 266 #[.pointer (some ⟨b,0,none⟩)] w λ e w'=>e=.returned (.string (s.extract a s.size))∧Below w.heap.size w w':=by
 have c0:w.cell? ⟨b,0,none⟩=some (.string s):=block_cell h 0;have c1:w.cell? ⟨b,1,none⟩=some (.int .i64 a):=block_cell h 1;have i1:(a:Int)≤s.size:=by omega
 have i2:0≤(a:Int):=by omega
 have i3:a≤s.size:=ha;clear h
 go_enter Tryz.func266,Tryz.ntmps266
 go_wp2
 refine wp_region_all 1000 (none) (phis (List.map qv [.pointer (some ⟨b,0,none⟩),.pointer (some ⟨b,0,none⟩),.pointer (some ⟨b,0,none⟩),.string s,.pointer (some ⟨b,0,none⟩),.pointer (some ⟨b,0,none⟩),.pointer (some ⟨b,1,none⟩),.int .i64 a,.string (s.extract a s.size),.string (s.extract a s.size)])) rfl (by kernel_rfl) (mono_of mono_qv) (steps_of 10 ⟨?s0,?s1,?s2,?s3,?s4,?s5,?s6,?s7,?s8,?s9,trivial⟩) ?_
 case s0=>
  refine qV (λ _=>rfl) rfl λ av wv hE hO hD=>?_
  simp[go_sem,qF av 0 (.pointer (some ⟨b,0,none⟩)) (hO.2.2 0 rfl),i1,i2,i3]
 case s1=>
  refine qV (λ _=>rfl) rfl λ av wv hE hO hD=>?_
  simp[go_sem,qE (hD.1 rfl _ rfl),i1,i2,i3]
 case s2=>
  refine qV (λ _=>rfl) rfl λ av wv hE hO hD=>?_
  simp[go_sem,qE (hD.1 rfl _ rfl),i1,i2,i3]
 case s3=>
  refine qV (λ _=>rfl) rfl λ av wv hE hO hD=>?_
  simp[go_sem,qE (hD.1 rfl _ rfl),extB_cell hE (by simp) c0,extB_cell hE (by simp) c1,i1,i2,i3]
 case s4=>
  refine qV (λ _=>rfl) rfl λ av wv hE hO hD=>?_
  simp[go_sem,qF av 0 (.pointer (some ⟨b,0,none⟩)) (hO.2.2 0 rfl),i1,i2,i3]
 case s5=>
  refine qV (λ _=>rfl) rfl λ av wv hE hO hD=>?_
  simp[go_sem,qE (hD.1 rfl _ rfl),i1,i2,i3]
 case s6=>
  refine qV (λ _=>rfl) rfl λ av wv hE hO hD=>?_
  simp[go_sem,qE (hD.1 rfl _ rfl),i1,i2,i3]
 case s7=>
  refine qV (λ _=>rfl) rfl λ av wv hE hO hD=>?_
  simp[go_sem,qE (hD.1 rfl _ rfl),extB_cell hE (by simp) c0,extB_cell hE (by simp) c1,i1,i2,i3]
 case s8=>
  refine qV (λ _=>rfl) rfl λ av wv hE hO hD=>?_
  simp[go_sem,qE (hD.1 rfl _ rfl),qE (hD.2.1 rfl _ rfl),i1,i2,i3]
 case s9=>
  refine qV (λ _=>rfl) rfl λ av wv hE hO hD=>?_
  simp[go_sem,qE (hD.1 rfl _ rfl),i1,i2,i3]
 intro a' w' hE hO hall
 have hA:=act_of_outer (ds:=[6,7,8,9,10,11,12,13,14,2]) rfl hO (by kernel_rfl)
 obtain⟨j0,j1,j2,j3,j4,j5,j6,j7,j8,j9,-⟩:=hall
 simp only[List.foldl_cons,List.foldl_nil,Act.put,List.setIfInBounds_toArray,List.set_cons_succ,List.set_cons_zero,qJ 6 (j0 _ rfl),qJ 7 (j1 _ rfl),qJ 8 (j2 _ rfl),qJ 9 (j3 _ rfl),qJ 10 (j4 _ rfl),qJ 11 (j5 _ rfl),qJ 12 (j6 _ rfl),qJ 13 (j7 _ rfl),qJ 14 (j8 _ rfl),qJ 2 (j9 _ rfl)]at hA
 clear hO j0 j1 j2 j3 j4 j5 j6 j7 j8 j9
 subst hA
 have B:=Lib.hid (of_drew hE);clear hE
 go_wp2
 go_ret
 exact⟨rfl,B.out⟩
def boundOf(n most:Int)(rest:ByteArray):Except Int (Int × ByteArray):=if most<n then .error 3 else .ok (n,rest)
set_option maxRecDepth 100000 in
set_option maxHeartbeats 1000000 in
theorem bound_any(w:World)(b:Nat)(s rest:ByteArray)(a most n:Int)(h:RdB w b s a most)(hm0:0≤most)(hm1:most≤9223372036854775807):
  Calls Tryz.prog 296 #[.pointer (some ⟨b,0,none⟩),.agg #[.int .u64 n,.string rest]] w (HeadIs (boundOf n most rest) w):=by
 have c2:w.cell? ⟨b,2,none⟩=some (.int .i64 most):=block_cell h 2;have hl:=lt_of_block h;have i1:IntKind.u64.wrap most=most:=IntWalk.u64_in _ (by omega);clear h
 go_enter Tryz.func296,Tryz.ntmps296
 go_wp2
 obtain⟨W,hW⟩:∃W,(w.alloc (.cells #[.int .u64 n,.string rest] 306)).alloc (.cells #[.int .u64 0,.string ⟨#[]⟩] 306)=W:=⟨_,rfl⟩
 have WB:Hid (Below w.heap.size w W):=Lib.hid (by rw[←hW];(repeat (first | exact Below.refl _ _ | assumption | (refine bdrew ?_) | (refine bdrewN ?_ _) | (refine balloc ?_ _) | (refine bset ?_ (by first | omega | (simp;done) | (simp;omega)) _) | (refine bnext ?_ (by assumption)))))
 have W0:Hid (W.heap[w.heap.size]?=some (.cells #[.int .u64 n,.string rest] 306 (0,0))):=Lib.hid (by rw[←hW];(repeat (first | exact alloc_new_at _ (by repeat (first | rfl | refine alloc_size _ ?_)) | refine block_alloc ?_ _)))
 have W1:Hid (W.heap[w.heap.size+1]?=some (.cells #[.int .u64 0,.string ⟨#[]⟩] 306 (0,0))):=Lib.hid (by rw[←hW];(repeat (first | exact alloc_new_at _ (by repeat (first | rfl | refine alloc_size _ ?_)) | refine block_alloc ?_ _)))
 rw[hW]
 have c2:W.cell? ⟨b,2,none⟩=some (.int .i64 most):=by rw[WB.out.cell (p:=⟨b,2,none⟩) hl];exact c2
 have d0:W.cell? ⟨w.heap.size,0,none⟩=some (.int .u64 n):=block_cell W0.out 0;clear hW
 obtain⟨x,hx⟩:∃x,decide (most<n)=x:=⟨_,rfl⟩
 refine wp_region_all 1000 (none) (phis (List.map qv [.pointer (some ⟨w.heap.size,0,none⟩),.int .u64 n,.pointer (some ⟨b,0,none⟩),.pointer (some ⟨b,0,none⟩),.pointer (some ⟨b,2,none⟩),.int .i64 most,.int .u64 most,.bool x])) rfl (by kernel_rfl) (mono_of mono_qv) (steps_of 8 ⟨?s0,?s1,?s2,?s3,?s4,?s5,?s6,?s7,trivial⟩) ?_
 case s0=>
  refine qV (λ _=>rfl) rfl λ av wv hE hO hD=>?_
  simp[go_sem,qF av 3 (.pointer (some ⟨w.heap.size,0,none⟩)) (hO.2.2 3 rfl),i1]
 case s1=>
  refine qV (λ _=>rfl) rfl λ av wv hE hO hD=>?_
  simp[go_sem,qE (hD.1 rfl _ rfl),extB_cell hE (by simp) d0,extB_cell hE (by simp) c2,i1]
 case s2=>
  refine qV (λ _=>rfl) rfl λ av wv hE hO hD=>?_
  simp[go_sem,qF av 0 (.pointer (some ⟨b,0,none⟩)) (hO.2.2 0 rfl),i1]
 case s3=>
  refine qV (λ _=>rfl) rfl λ av wv hE hO hD=>?_
  simp[go_sem,qE (hD.1 rfl _ rfl),i1]
 case s4=>
  refine qV (λ _=>rfl) rfl λ av wv hE hO hD=>?_
  simp[go_sem,qE (hD.1 rfl _ rfl),i1]
 case s5=>
  refine qV (λ _=>rfl) rfl λ av wv hE hO hD=>?_
  simp[go_sem,qE (hD.1 rfl _ rfl),extB_cell hE (by simp) d0,extB_cell hE (by simp) c2,i1]
 case s6=>
  refine qV (λ _=>rfl) rfl λ av wv hE hO hD=>?_
  simp[go_sem,qE (hD.1 rfl _ rfl),i1]
 case s7=>
  refine step_val (λ av wv hE hS hO hD=>⟨rfl,?_⟩) (λ _=>rfl)
  have f6:=qE (hD.1 rfl _ rfl);have f11:=qE (hD.2.1 rfl _ rfl)
  simp[go_sem,f6,f11,hx]
 intro a' w' hE hO hall
 have hA:=act_of_outer (ds:=[5,6,7,8,9,10,11,12]) rfl hO (by kernel_rfl)
 obtain⟨j0,j1,j2,j3,j4,j5,j6,j7,-⟩:=hall
 simp only[List.foldl_cons,List.foldl_nil,Act.put,List.setIfInBounds_toArray,List.set_cons_succ,List.set_cons_zero,qJ 5 (j0 _ rfl),qJ 6 (j1 _ rfl),qJ 7 (j2 _ rfl),qJ 8 (j3 _ rfl),qJ 9 (j4 _ rfl),qJ 10 (j5 _ rfl),qJ 11 (j6 _ rfl),qJ 12 (j7 _ rfl)]at hA
 clear hO j0 j1 j2 j3 j4 j5 j6 j7
 subst hA
 have B:=Lib.hid (bnext WB.out (of_drew hE));have X0:=Lib.hid (extB_block hE (by simp) W0.out);have X1:=Lib.hid (extB_block hE (by simp) W1.out);have HX:=Lib.hid hx;clear hE c2 d0 hx;have x0:w'.cell? ⟨w.heap.size,0,none⟩=some (.int .u64 n):=block_cell X0.out 0;have x1:w'.cell? ⟨w.heap.size,1,none⟩=some (.string rest):=block_cell X0.out 1;have y0:∀o,w'.cell? ⟨w.heap.size+1,o,none⟩=_:=block_cell X1.out;have y1:∀o,w'.frozen? ⟨w.heap.size+1,o,none⟩=false:=block_free X1.out
 cases x
 ·go_wp2
  refine bodyPost_ret (v:=.agg #[.int .u64 n,.string rest]) (by simp[results,Tryz.results296,go_sem,y0]) rfl ?_
  have:boundOf n most rest=.ok (n,rest):=by unfold boundOf;rw[if_neg (by simpa using HX.out)]
  rw[this]
  exact⟨(by have:=B.out;(repeat (first | exact Below.refl _ _ | assumption | (refine bdrew ?_) | (refine bdrewN ?_ _) | (refine balloc ?_ _) | (refine bset ?_ (by first | omega | (simp;done) | (simp;omega)) _) | (refine bnext ?_ (by assumption))))),rfl⟩
 ·go_wp2_with fail
  refine(stop_any 3 _).mono ?_
  rintro e w1 ⟨rfl,rfl⟩
  go_wp2
  have:boundOf n most rest=.error 3:=by unfold boundOf;rw[if_pos (by simpa using HX.out)]
  rw[this]
  exact⟨rfl,B.out,rfl⟩
theorem behind_any(w:World)(b:Nat)(s:ByteArray)(a left most:Int)(h:RdB w b s a most)(hs:s.size≤9223372036854775807)(l0:0≤left)(l1:left≤s.size):
  Calls Tryz.prog 267 #[.pointer (some ⟨b,0,none⟩),.int .i64 left] w λ e w'=>e=.returned (.tuple #[])∧w'=w.setCell ⟨b,1,none⟩ (.int .i64 (s.size - left)):=by
 have c0:w.cell? ⟨b,0,none⟩=some (.string s):=block_cell h 0;have c1:w.cell? ⟨b,1,none⟩=some (.int .i64 a):=block_cell h 1;have c2:w.frozen? ⟨b,1,none⟩=false:=block_free h 1;clear h
 go_enter Tryz.func267,Tryz.ntmps267
 go_wp2
 go_end0
 exact⟨rfl,rfl⟩
set_option maxRecDepth 100000 in
theorem fault_frame(p q x:Value):#[p,q]++((Array.replicate 24 undef).setIfInBounds 5 x).setIfInBounds 2 x=#[p,q,undef,undef,x,undef,undef,x,undef,undef,undef,undef,undef,undef,undef,undef,undef,undef,undef,undef,undef,undef,undef,undef,undef,undef]:=by
 simp[Array.replicate,List.replicate]
set_option maxRecDepth 100000 in
theorem fault_idle(p q:Value)(w:World):
  CallsD Tryz.prog 264 #[p,q] .returning w λ e u' w'=>e=.returned (.tuple #[])∧u'=.returning∧w'=w:=by
 refine callsD_of_wpS Tryz.func264 rfl λ c₀ cs hu=>?_
 apply wpS_seq
 apply wpS_region
 simp[wpOpsS,go_sem,recoverD,hu,Tryz.ntmps264,Exit.thenS]
 refine wpS_of_wp ?_
 obtain⟨Q,hQ⟩:∃Q:Exit→Act→World→Prop,(λ e a' w'=>bodyPostS Tryz.prog Tryz.f264 c₀ cs (λ e u' w'=>e=Ending.returned (.tuple #[])∧u'=.returning∧w'=w) e a' (c₀ :: cs) w')=Q:=⟨_,rfl⟩
 rw[hQ,fault_frame]
 have HQ:=Lib.hid hQ;clear hQ
 go_wp2
 rw[←HQ.out]
 simp[bodyPostS,results,Tryz.results264]
 cases c₀;simp_all
theorem assert_errno(k:Int)(w:World):(Instr.typeAssert (.iface 27 (.int .i64 k)) 20 27 true).run Tryz.prog w=.ok (.tuple #[.int .i64 k,.bool true]) w:=by kernel_rfl
set_option maxRecDepth 100000 in
theorem fault_some(k:Int)(older:List PanicEntry)(p:Value)(a:Int)(eb:Nat)(x:Value)(w:World)(hp:Calls Tryz.prog 292 #[p] w λ e w'=>e=.returned (.int .i64 a)∧w'=w)
  (hc:w.cell? ⟨eb,0,none⟩=some x) (hx:x.oneCell'=true) (hz:w.frozen? ⟨eb,0,none⟩=false):
  CallsD Tryz.prog 264 #[p,.pointer (some ⟨eb,0,none⟩)] (.panicking ({ v:=.iface 27 (.int .i64 k),recovered:=false } :: older)) w λ e u' w'=>
   e=.returned (.tuple #[])∧u'=.panicking ({ v:=.iface 27 (.int .i64 k),recovered:=true } :: older)∧
   w'=(w.setCell ⟨eb,0,none⟩ (.iface 290 (.pointer (some ⟨w.heap.size,0,none⟩)))).alloc (.cells #[.int .i64 k,.int .i64 a] 145):=by
 refine callsD_of_wpS Tryz.func264 rfl λ c₀ cs hu=>?_
 apply wpS_seq
 apply wpS_region
 simp[wpOpsS,go_sem,recoverD,hu,Tryz.ntmps264,Exit.thenS]
 refine wpS_of_wp ?_
 obtain⟨Q,hQ⟩:∃Q:Exit→Act→World→Prop,(λ e a' w'=>bodyPostS Tryz.prog Tryz.f264 c₀ cs (λ e u' w'=>e=Ending.returned (.tuple #[])∧u'=.panicking ({ v:=.iface 27 (.int .i64 k),recovered:=true } :: older)∧w'=(w.setCell ⟨eb,0,none⟩ (.iface 290 (.pointer (some ⟨w.heap.size,0,none⟩)))).alloc (.cells #[.int .i64 k,.int .i64 a] 145)) e a' ({ c₀ with mode:=.panicking ({ v:=.iface 27 (.int .i64 k),recovered:=true } :: older) } :: cs) w')=Q:=⟨_,rfl⟩
 rw[hQ,fault_frame]
 have HQ:=Lib.hid hQ;clear hQ hu;have ha:=assert_errno k;have hl:=lt_of_cell hc
 go_wp2_with fail
 refine hp.mono ?_
 rintro e w1 ⟨rfl,rfl⟩
 go_wp2
 rw[←HQ.out]
 exact⟨rfl,_,rfl,.tuple #[],by simp[results,Tryz.results264],rfl,rfl,rfl⟩
end Go.Proofs.YtpobhbdomldecaaGreatDoor
namespace Go.Proofs.YtpobhbdomldecaaGreatDoor
set_option linter.unusedSimpArgs false
set_option linter.unusedVariables false
open Go.RowKit
theorem head_bd{t:ByteArray}{l:List URow}{n:Int}{rest:ByteArray}(hok:∀i,(unth l i).Ok)(h:headOf t l=.ok (n,rest)):0≤n∧n≤18446744073709551615∧rest.size<t.size:=by
 unfold headOf at h
 split at h
 ·cases h
 ·next h0=>
  split at h
  ·cases h
  ·next r hr=>
   have hp:=List.find?_some hr
   obtain⟨i,hi,rfl⟩:=List.getElem_of_mem (List.mem_of_find?_eq_some hr)
   have ok:=hok i
   rw[unth_eq l i hi]at ok
   simp only[Bool.and_eq_true,decide_eq_true_eq]at hp
   obtain⟨v,hv⟩:∃v,(if l[i].size=0 then byte t 0 - l[i].lo else be t l[i].size.toNat)=v:=⟨_,rfl⟩
   simp only[hv]at h
   by_cases h1:(t.size:Int)<1+l[i].size
   ·rw[if_pos h1]at h;cases h
   ·rw[if_neg h1]at h
    by_cases h2:v<l[i].least
    ·rw[if_pos h2]at h;cases h
    ·rw[if_neg h2]at h
     simp only[Except.ok.injEq,Prod.mk.injEq]at h
     obtain⟨rfl,rfl⟩:=h
     have vb:=numAt_bd (s:=t) (r:=l[i]) (j:=l[i].size.toNat) (by have:=ok.sz1;have:=ok.sz0;omega) ok hp.1
     unfold numAt at vb
     rw[hv]at vb
     refine⟨vb.1,vb.2,?_⟩
     rw[ByteArray.size_extract];omega
def ReadIs(res:Except Int (Value × Nat))(zero:Value)(b:Nat)(s:ByteArray)(most:Int)(a:Nat)(w:World)(e:Ending)(w':World):Prop:=
 ExtB (some b) w w'∧match res with
  | .ok x=>e=.returned (.tuple #[x.1,.nilIface])∧RdB w' b s x.2 most
  | .error k=>RdB w' b s a most∧∃f,e=.returned (.tuple #[zero,.iface 290 (.pointer (some ⟨f,0,none⟩))])∧w.heap.size≤f∧w'.heap[f]?=some (.cells #[.int .i64 k,.int .i64 a] 145 (0,0))
def textOf(s:ByteArray)(a:Nat)(most:Int)(l:List URow):Except Int (Value × Nat):=
 match headOf (s.extract a s.size) l with
 | .error k=>.error k
 | .ok (n,rest)=>if most<n then .error 3 else if(rest.size:Int)<n then .error 4 else .ok (.string (rest.extract 0 n.toNat),s.size - (rest.size - n.toNat))
def countOf(s:ByteArray)(a:Nat)(most:Int)(l:List URow):Except Int (Value × Nat):=
 match headOf (s.extract a s.size) l with
 | .error k=>.error k
 | .ok (n,rest)=>if most<n then .error 3 else .ok (.int .i64 n,s.size - rest.size)
def numOf(s:ByteArray)(a:Nat)(l:List URow):Except Int (Value × Nat):=
 match headOf (s.extract a s.size) l with
 | .error k=>.error k
 | .ok (n,rest)=>.ok (.int .u64 n,s.size - rest.size)
theorem extB_own{w w1 w':World}{b:Nat}(h:Below w.heap.size w w1)(hE:ExtB (some w.heap.size) w1 w'):ExtB (some b) w w':=
 ⟨hE.os.trans h.os,hE.tape.trans h.tape,hE.output.trans h.output,Nat.le_trans h.size hE.size,λ i hi _=>(hE.block i (Nat.lt_of_lt_of_le hi h.size) (by intro e;cases e;omega)).trans (h.block i hi)⟩
theorem ext_set{w w1:World}{b eb:Nat}(h:ExtB (some b) w w1)(he:w.heap.size≤eb)(v:Value):ExtB (some b) w (w1.setCell ⟨eb,0,none⟩ v):=
 ⟨h.os,h.tape,h.output,by simpa using h.size,λ i hi hn=>by rw[Below.heap_setCell _ _ _ _ (by show i≠eb;omega)];exact h.block i hi hn⟩
theorem door_err{fn:Func}{tmps:Array Value}{R:Ending→World→Prop}(k:Int)(b:Nat)(s:ByteArray)(a:Nat)(most:Int)(w1:World)(eb:Nat)(zero:Value)(h:RdB w1 b s a most)
  (he:w1.heap[eb]?=some (.cells #[.nilIface] 89 (0,0))) (hne:eb≠b)
  (hr:∀w:World,w.cell? ⟨eb,0,none⟩=some (.iface 290 (.pointer (some ⟨w1.heap.size,0,none⟩)))→(results fn tmps).run Tryz.prog w=.ok (.tuple #[zero,.iface 290 (.pointer (some ⟨w1.heap.size,0,none⟩))]) w)
  (hR:∀w':World,ExtB (some eb) w1 w'→RdB w' b s a most→w'.heap[w1.heap.size]?=some (.cells #[.int .i64 k,.int .i64 a] 145 (0,0))→R (.returned (.tuple #[zero,.iface 290 (.pointer (some ⟨w1.heap.size,0,none⟩))])) w'):
  Leaves Tryz.prog fn tmps R [{ target:=.fn (.func 264) #[],args:=#[.pointer (some ⟨b,0,none⟩),.pointer (some ⟨eb,0,none⟩)] }] (.panicking (chainOf k)) w1:=by
 refine leaves_cons (f:=264) (args:=#[.pointer (some ⟨b,0,none⟩),.pointer (some ⟨eb,0,none⟩)]) (by simp) (by simp[go_sem]) ?_
 refine(fault_some k [] (.pointer (some ⟨b,0,none⟩)) a eb .nilIface w1 (place_any w1 b s a most h) (block_cell he 0) rfl (block_free he 0)).mono ?_
 rintro e u' w'' ⟨rfl,rfl,rfl⟩
 have hl:=lt_of_block he;have hs:(w1.setCell ⟨eb,0,none⟩ (.iface 290 (.pointer (some ⟨w1.heap.size,0,none⟩)))).heap.size=w1.heap.size:=by simp
 have hb0:(w1.setCell ⟨eb,0,none⟩ (.iface 290 (.pointer (some ⟨w1.heap.size,0,none⟩)))).heap[eb]?=_:=block_setCell he _;have hb:=block_alloc hb0 (.cells #[.int .i64 k,.int .i64 a] 145)
 refine⟨_,hr _ (block_cell hb 0),hR _ ?_ ?_ ?_⟩
 ·refine⟨rfl,rfl,rfl,by simp,λ i hi hn=>?_⟩
  rw[Below.heap_alloc _ _ _ (by rw[hs];exact hi),Below.heap_setCell _ _ _ _ (by intro e;subst e;exact hn rfl)]
 ·exact block_alloc (block_setCell_ne h (by exact λ e=>hne e.symm) _) _
 ·exact alloc_new_at _ hs
set_option maxRecDepth 100000 in
set_option maxHeartbeats 1000000 in
theorem text_any(w:World)(b:Nat)(s:ByteArray)(a:Nat)(most:Int)(ra:Option Addr)(rc:Nat)(l:List URow)(h:RdB w b s a most)(ha:a≤s.size)(hs:s.size≤9223372036854775807)(hm0:0≤most)(hm1:most≤9223372036854775807)
  (hl0:0<len l) (hl:len l≤100) (hc:URows w ra l) (hok:∀i,(unth l i).Ok):
  Calls Tryz.prog 281 #[.pointer (some ⟨b,0,none⟩),.slice ra (len l) rc] w (ReadIs (textOf s a most l) (.string ⟨#[]⟩) b s most a w):=by
 have HC:=Lib.hid hc;have HO:=Lib.hid hok;have H:=Lib.hid h;have hbl:=lt_of_block h;clear hc hok h
 go_enter_defers Tryz.func281,Tryz.ntmps281
 go_wp2_with fail
 obtain⟨W,hW⟩:∃W,w.alloc (.cells #[.nilIface] 89)=W:=⟨_,rfl⟩
 have WB:Hid (Below w.heap.size w W):=Lib.hid (by rw[←hW];(repeat (first | exact Below.refl _ _ | assumption | (refine bdrew ?_) | (refine bdrewN ?_ _) | (refine balloc ?_ _) | (refine bset ?_ (by first | omega | (simp;done) | (simp;omega)) _) | (refine bnext ?_ (by assumption)))))
 have W0:Hid (W.heap[w.heap.size]?=some (.cells #[.nilIface] 89 (0,0))):=Lib.hid (by rw[←hW];(repeat (first | exact alloc_new_at _ (by repeat (first | rfl | refine alloc_size _ ?_)) | refine block_alloc ?_ _)))
 rw[hW]
 clear hW
 refine(here_any W b s a most (H.out.below WB.out) ha hs).mono ?_
 rintro e w1 ⟨rfl,hb1⟩
 have B1:=Lib.hid hb1;clear hb1
 go_wp2_with fail
 have hts:(s.extract a s.size).size≤9223372036854775807:=by rw[ByteArray.size_extract];omega
 refine(head_any (s.extract a s.size) ra rc l w1 hts hl0 hl (HC.out.below (bnext WB.out B1.out)) HO.out).mono ?_
 intro e w2 hh
 cases hres:headOf (s.extract a s.size) l with
 | error k=>
  rw[hres]at hh
  obtain⟨rfl,hb2⟩:=headIs_err hh
  have B2:=Lib.hid (bnext B1.out hb2);have T:Hid (textOf s a most l=.error k):=Lib.hid (by unfold textOf;rw[hres]);clear hh hb2 hres
  go_wp2
  rw[T.out]
  refine door_err k b s a most w2 w.heap.size (.string ⟨#[]⟩) (H.out.below (bnext WB.out B2.out)) ((B2.out.block _ (lt_of_block W0.out)).trans W0.out) (by omega) (λ w hc=>by simp[results,Tryz.results281,go_sem,hc]) (λ w' hE hR hf=>?_)
  have hz:=(bnext WB.out B2.out).size
  exact⟨extB_own (bnext WB.out B2.out) hE,hR,_,rfl,hz,hf⟩
 | ok x=>
  obtain⟨n,rest⟩:=x
  rw[hres]at hh
  obtain⟨rfl,hb2⟩:=headIs_ok hh
  have B2:=Lib.hid (bnext B1.out hb2)
  obtain⟨n0,n1,hrest⟩:=head_bd HO.out hres
  have HRES:=Lib.hid hres;have hrs:rest.size<(s.extract a s.size).size:=hrest;have hss:(s.extract a s.size).size=s.size - a:=by rw[ByteArray.size_extract];omega
  have hr2:rest.size<s.size - a:=by omega
  clear hh hb2 hres hrest hts hss hrs
  go_wp2_with fail
  refine(bound_any w2 b s rest a most n (H.out.below (bnext WB.out B2.out)) hm0 hm1).mono ?_
  intro e w3 hh
  by_cases hmn:most<n
  ·have hbo:boundOf n most rest=.error 3:=by unfold boundOf;rw[if_pos hmn]
   rw[hbo]at hh
   obtain⟨rfl,hb3⟩:=headIs_err hh
   have B3:=Lib.hid (bnext B2.out hb3);have T:Hid (textOf s a most l=.error 3):=Lib.hid (by unfold textOf;rw[HRES.out];exact if_pos hmn);clear hh hb3 hbo
   go_wp2
   rw[T.out]
   refine door_err 3 b s a most w3 w.heap.size (.string ⟨#[]⟩) (H.out.below (bnext WB.out B3.out)) ((B3.out.block _ (lt_of_block W0.out)).trans W0.out) (by omega) (λ w hc=>by simp[results,Tryz.results281,go_sem,hc]) (λ w' hE hR hf=>?_)
   have hz:=(bnext WB.out B3.out).size
   exact⟨extB_own (bnext WB.out B3.out) hE,hR,_,rfl,hz,hf⟩
  ·have hbo:boundOf n most rest=.ok (n,rest):=by unfold boundOf;rw[if_neg hmn]
   rw[hbo]at hh
   obtain⟨rfl,hb3⟩:=headIs_ok hh
   have B3:=Lib.hid (bnext B2.out hb3);clear hh hb3 hbo
   obtain⟨q,hq⟩:∃q:Nat,n=q:=⟨n.toNat,by omega⟩
   subst hq
   have i1:IntKind.u64.wrap (rest.size:Int)=rest.size:=IntWalk.u64_in _ (by omega);have i2:IntKind.i64.wrap (q:Int)=q:=IntWalk.i64_in _ (by omega)
   by_cases hrq:rest.size<q
   ·have T:Hid (textOf s a most l=.error 4):=Lib.hid (by
     unfold textOf;rw[HRES.out]
     show(if most<(q:Int)then _ else _)=_
     rw[if_neg hmn,if_pos (by omega)])
    have t1:(rest.size:Int)<q:=by omega
    go_wp2_with fail
    refine(stop_any 4 _).mono ?_
    rintro e w4 ⟨rfl,hw4⟩
    have B4:Hid (Below W.heap.size W w4):=Lib.hid (by rw[hw4];exact balloc B3.out _);clear hw4
    go_wp2
    rw[T.out]
    refine door_err 4 b s a most w4 w.heap.size (.string ⟨#[]⟩) (H.out.below (bnext WB.out B4.out)) ((B4.out.block _ (lt_of_block W0.out)).trans W0.out) (by omega) (λ w hc=>by simp[results,Tryz.results281,go_sem,hc]) (λ w' hE hR hf=>?_)
    have hz:=(bnext WB.out B4.out).size
    exact⟨extB_own (bnext WB.out B4.out) hE,hR,_,rfl,hz,hf⟩
   ·have T:Hid (textOf s a most l=.ok (.string (rest.extract 0 q),s.size - (rest.size - q))):=Lib.hid (by
     unfold textOf;rw[HRES.out]
     show(if most<(q:Int)then _ else _)=_
     rw[if_neg hmn,if_neg (by omega)];rfl)
    have t1:¬(rest.size:Int)<q:=by omega
    have hb3:b<w3.heap.size:=Nat.lt_of_lt_of_le hbl (bnext WB.out B3.out).size;have he3:w.heap.size<w3.heap.size:=Nat.lt_of_lt_of_le (lt_of_block W0.out) B3.out.size
    go_wp2_with fail
    refine(behind_any _ b s a (rest.size - q) most (block_alloc (H.out.below (bnext WB.out B3.out)) _) hs (by omega) (by omega)).mono ?_
    rintro e w5 ⟨rfl,hw5⟩
    have R5:Hid (RdB w5 b s ((s.size - (rest.size - q):Nat):Int) most):=Lib.hid (by
     rw[hw5]
     have h:=block_setCell (block_alloc (H.out.below (bnext WB.out B3.out)) (.cells #[.int .u64 q,.string rest] 306)) (o:=1) (.int .i64 ((s.size:Int) - (rest.size - q)))
     rw[show((s.size - (rest.size - q):Nat):Int)=(s.size:Int) - (rest.size - q)by omega]
     exact h)
    have E5:w5.heap[w.heap.size]?=some (.cells #[.nilIface] 89 (0,0)):=by
     rw[hw5];exact block_setCell_ne (block_alloc ((B3.out.block _ (lt_of_block W0.out)).trans W0.out) _) (by show w.heap.size≠b;omega) _
    have N5:w5.heap[w3.heap.size]?=some (.cells #[.int .u64 q,.string rest] 306 (0,0)):=by
     rw[hw5];exact block_setCell_ne (alloc_new_at _ rfl) (by show w3.heap.size≠b;omega) _
    have X5:Hid (ExtB (some b) w w5):=Lib.hid (by
     rw[hw5]
     have hB:=balloc (bnext WB.out B3.out) (.cells #[.int .u64 q,.string rest] 306)
     exact⟨hB.os,hB.tape,hB.output,by simpa using hB.size,λ i hi hn=>by rw[Below.heap_setCell _ _ _ _ (by exact λ e=>hn (by rw[e]))];exact hB.block i hi⟩)
    have a0:w5.cell? ⟨w3.heap.size,0,none⟩=some (.int .u64 q):=block_cell N5 0;have a1:w5.cell? ⟨w3.heap.size,1,none⟩=some (.string rest):=block_cell N5 1;have a2:w5.cell? ⟨w.heap.size,0,none⟩=some .nilIface:=block_cell E5 0;have a3:w5.frozen? ⟨w.heap.size,0,none⟩=false:=block_free E5 0;have hz5:=lt_of_block E5;have qr:q≤rest.size:=by omega
    clear hw5 E5 N5
    go_wp2
    rw[T.out]
    refine leaves_cons (f:=264) (args:=#[.pointer (some ⟨b,0,none⟩),.pointer (some ⟨w.heap.size,0,none⟩)]) (by simp) (by simp[go_sem]) ?_
    refine(fault_idle (.pointer (some ⟨b,0,none⟩)) (.pointer (some ⟨w.heap.size,0,none⟩)) _).mono ?_
    rintro e u' w'' ⟨rfl,rfl,rfl⟩
    refine⟨_,by simp[results,Tryz.results281,go_sem,a2];rfl,?_⟩
    refine⟨?_,rfl,?_⟩
    ·exact ext_set X5.out (Nat.le_refl _) _
    ·exact block_setCell_ne R5.out (by show b≠w.heap.size;omega) _
set_option maxRecDepth 100000 in
set_option maxHeartbeats 1000000 in
theorem count_any(w:World)(b:Nat)(s:ByteArray)(a:Nat)(most:Int)(ra:Option Addr)(rc:Nat)(l:List URow)(h:RdB w b s a most)(ha:a≤s.size)(hs:s.size≤9223372036854775807)(hm0:0≤most)(hm1:most≤9223372036854775807)
  (hl0:0<len l) (hl:len l≤100) (hc:URows w ra l) (hok:∀i,(unth l i).Ok):
  Calls Tryz.prog 280 #[.pointer (some ⟨b,0,none⟩),.slice ra (len l) rc] w (ReadIs (countOf s a most l) (.int .i64 0) b s most a w):=by
 have HC:=Lib.hid hc;have HO:=Lib.hid hok;have H:=Lib.hid h;have hbl:=lt_of_block h;clear hc hok h
 go_enter_defers Tryz.func280,Tryz.ntmps280
 go_wp2_with fail
 obtain⟨W,hW⟩:∃W,w.alloc (.cells #[.nilIface] 89)=W:=⟨_,rfl⟩
 have WB:Hid (Below w.heap.size w W):=Lib.hid (by rw[←hW];(repeat (first | exact Below.refl _ _ | assumption | (refine bdrew ?_) | (refine bdrewN ?_ _) | (refine balloc ?_ _) | (refine bset ?_ (by first | omega | (simp;done) | (simp;omega)) _) | (refine bnext ?_ (by assumption)))))
 have W0:Hid (W.heap[w.heap.size]?=some (.cells #[.nilIface] 89 (0,0))):=Lib.hid (by rw[←hW];(repeat (first | exact alloc_new_at _ (by repeat (first | rfl | refine alloc_size _ ?_)) | refine block_alloc ?_ _)))
 rw[hW]
 clear hW
 refine(here_any W b s a most (H.out.below WB.out) ha hs).mono ?_
 rintro e w1 ⟨rfl,hb1⟩
 have B1:=Lib.hid hb1;clear hb1
 go_wp2_with fail
 have hts:(s.extract a s.size).size≤9223372036854775807:=by rw[ByteArray.size_extract];omega
 refine(head_any (s.extract a s.size) ra rc l w1 hts hl0 hl (HC.out.below (bnext WB.out B1.out)) HO.out).mono ?_
 intro e w2 hh
 cases hres:headOf (s.extract a s.size) l with
 | error k=>
  rw[hres]at hh
  obtain⟨rfl,hb2⟩:=headIs_err hh
  have B2:=Lib.hid (bnext B1.out hb2);have T:Hid (countOf s a most l=.error k):=Lib.hid (by unfold countOf;rw[hres]);clear hh hb2 hres
  go_wp2
  rw[T.out]
  refine door_err k b s a most w2 w.heap.size (.int .i64 0) (H.out.below (bnext WB.out B2.out)) ((B2.out.block _ (lt_of_block W0.out)).trans W0.out) (by omega) (λ w hc=>by simp[results,Tryz.results280,go_sem,hc]) (λ w' hE hR hf=>?_)
  have hz:=(bnext WB.out B2.out).size
  exact⟨extB_own (bnext WB.out B2.out) hE,hR,_,rfl,hz,hf⟩
 | ok x=>
  obtain⟨n,rest⟩:=x
  rw[hres]at hh
  obtain⟨rfl,hb2⟩:=headIs_ok hh
  have B2:=Lib.hid (bnext B1.out hb2)
  obtain⟨n0,n1,hrest⟩:=head_bd HO.out hres
  have HRES:=Lib.hid hres;have hrs:rest.size<(s.extract a s.size).size:=hrest;have hss:(s.extract a s.size).size=s.size - a:=by rw[ByteArray.size_extract];omega
  have hr2:rest.size<s.size - a:=by omega
  clear hh hb2 hres hrest hts hss hrs
  go_wp2_with fail
  refine(bound_any w2 b s rest a most n (H.out.below (bnext WB.out B2.out)) hm0 hm1).mono ?_
  intro e w3 hh
  by_cases hmn:most<n
  ·have hbo:boundOf n most rest=.error 3:=by unfold boundOf;rw[if_pos hmn]
   rw[hbo]at hh
   obtain⟨rfl,hb3⟩:=headIs_err hh
   have B3:=Lib.hid (bnext B2.out hb3);have T:Hid (countOf s a most l=.error 3):=Lib.hid (by unfold countOf;rw[HRES.out];exact if_pos hmn);clear hh hb3 hbo
   go_wp2
   rw[T.out]
   refine door_err 3 b s a most w3 w.heap.size (.int .i64 0) (H.out.below (bnext WB.out B3.out)) ((B3.out.block _ (lt_of_block W0.out)).trans W0.out) (by omega) (λ w hc=>by simp[results,Tryz.results280,go_sem,hc]) (λ w' hE hR hf=>?_)
   have hz:=(bnext WB.out B3.out).size
   exact⟨extB_own (bnext WB.out B3.out) hE,hR,_,rfl,hz,hf⟩
  ·have hbo:boundOf n most rest=.ok (n,rest):=by unfold boundOf;rw[if_neg hmn]
   rw[hbo]at hh
   obtain⟨rfl,hb3⟩:=headIs_ok hh
   have B3:=Lib.hid (bnext B2.out hb3);clear hh hb3 hbo
   obtain⟨q,hq⟩:∃q:Nat,n=q:=⟨n.toNat,by omega⟩
   subst hq
   have i2:IntKind.i64.wrap (q:Int)=q:=IntWalk.i64_in _ (by omega);have T:Hid (countOf s a most l=.ok (.int .i64 q,s.size - rest.size)):=Lib.hid (by
    unfold countOf;rw[HRES.out]
    show(if most<(q:Int)then _ else _)=_
    rw[if_neg hmn])
   have hb3:b<w3.heap.size:=Nat.lt_of_lt_of_le hbl (bnext WB.out B3.out).size;have he3:w.heap.size<w3.heap.size:=Nat.lt_of_lt_of_le (lt_of_block W0.out) B3.out.size
   go_wp2_with fail
   refine(behind_any _ b s a rest.size most (block_alloc (H.out.below (bnext WB.out B3.out)) _) hs (by omega) (by omega)).mono ?_
   rintro e w5 ⟨rfl,hw5⟩
   have R5:Hid (RdB w5 b s ((s.size - rest.size:Nat):Int) most):=Lib.hid (by
    rw[hw5]
    have h:=block_setCell (block_alloc (H.out.below (bnext WB.out B3.out)) (.cells #[.int .u64 q,.string rest] 306)) (o:=1) (.int .i64 ((s.size:Int) - rest.size))
    rw[show((s.size - rest.size:Nat):Int)=(s.size:Int) - rest.size by omega]
    exact h)
   have E5:w5.heap[w.heap.size]?=some (.cells #[.nilIface] 89 (0,0)):=by
    rw[hw5];exact block_setCell_ne (block_alloc ((B3.out.block _ (lt_of_block W0.out)).trans W0.out) _) (by show w.heap.size≠b;omega) _
   have N5:w5.heap[w3.heap.size]?=some (.cells #[.int .u64 q,.string rest] 306 (0,0)):=by
    rw[hw5];exact block_setCell_ne (alloc_new_at _ rfl) (by show w3.heap.size≠b;omega) _
   have X5:Hid (ExtB (some b) w w5):=Lib.hid (by
    rw[hw5]
    have hB:=balloc (bnext WB.out B3.out) (.cells #[.int .u64 q,.string rest] 306)
    exact⟨hB.os,hB.tape,hB.output,by simpa using hB.size,λ i hi hn=>by rw[Below.heap_setCell _ _ _ _ (by exact λ e=>hn (by rw[e]))];exact hB.block i hi⟩)
   have a0:w5.cell? ⟨w3.heap.size,0,none⟩=some (.int .u64 q):=block_cell N5 0;have a2:w5.cell? ⟨w.heap.size,0,none⟩=some .nilIface:=block_cell E5 0;have a3:w5.frozen? ⟨w.heap.size,0,none⟩=false:=block_free E5 0;have hz5:=lt_of_block E5;clear hw5 E5 N5
   go_wp2
   rw[T.out]
   refine leaves_cons (f:=264) (args:=#[.pointer (some ⟨b,0,none⟩),.pointer (some ⟨w.heap.size,0,none⟩)]) (by simp) (by simp[go_sem]) ?_
   refine(fault_idle (.pointer (some ⟨b,0,none⟩)) (.pointer (some ⟨w.heap.size,0,none⟩)) _).mono ?_
   rintro e u' w'' ⟨rfl,rfl,rfl⟩
   refine⟨_,by simp[results,Tryz.results280,go_sem,a2];rfl,?_⟩
   refine⟨?_,rfl,?_⟩
   ·exact ext_set X5.out (Nat.le_refl _) _
   ·exact block_setCell_ne R5.out (by show b≠w.heap.size;omega) _
end Go.Proofs.YtpobhbdomldecaaGreatDoor
namespace Go.Proofs.YtpobhbdomldecaaGreatDoor
set_option linter.unusedSimpArgs false
set_option linter.unusedVariables false
open Go.RowKit
def numsL:List URow:=[⟨0,127,0,0⟩,⟨204,204,1,128⟩,⟨205,205,2,256⟩,⟨206,206,4,65536⟩,⟨207,207,8,4294967296⟩]
def binsL:List URow:=[⟨196,196,1,0⟩,⟨197,197,2,256⟩]
def strsL:List URow:=[⟨160,191,0,0⟩,⟨217,217,1,32⟩,⟨218,218,2,256⟩]
def listsL:List URow:=[⟨144,159,0,0⟩,⟨220,220,2,16⟩]
def pairsL:List URow:=[⟨128,143,0,0⟩,⟨222,222,2,16⟩]
theorem urows_ok{l:List URow}(h:(l.all λ r=>decide (0≤r.lo) && decide (r.hi≤255) && decide (0≤r.size) && decide (r.size≤8) && decide (0≤r.least) && decide (r.least≤4294967296))=true):∀i,(unth l i).Ok:=λ i=>by
 rcases Nat.lt_or_ge i l.length with hi | hi
 ·rw[unth_eq l i hi]
  have:=List.all_eq_true.1 h l[i] (List.getElem_mem _)
  simp only[Bool.and_eq_true,decide_eq_true_eq]at this
  obtain⟨⟨⟨⟨⟨a,b⟩,c⟩,d⟩,e⟩,f⟩:=this
  exact⟨a,b,c,d,e,f⟩
 ·have:unth l i=URow.zero:=by unfold unth;rw[List.getD_eq_getElem?_getD,List.getElem?_eq_none hi];rfl
  rw[this];exact⟨by decide,by decide,by decide,by decide,by decide,by decide⟩
theorem numsL_ok:∀i,(unth numsL i).Ok:=urows_ok (by decide)
theorem binsL_ok:∀i,(unth binsL i).Ok:=urows_ok (by decide)
theorem strsL_ok:∀i,(unth strsL i).Ok:=urows_ok (by decide)
theorem listsL_ok:∀i,(unth listsL i).Ok:=urows_ok (by decide)
theorem pairsL_ok:∀i,(unth pairsL i).Ok:=urows_ok (by decide)
def TabAt(B:Nat)(w:World)(g:Nat)(l:List URow):Prop:=∃tb tq rc,g<B∧tb<B∧B≤w.heap.size∧w.cell? ⟨g,0,none⟩=some (.slice (some ⟨tb,tq,none⟩) (len l) rc)∧URows w (some ⟨tb,tq,none⟩) l
theorem TabAt.ext{B:Nat}{w w':World}{g b:Nat}{l:List URow}(h:TabAt B w g l)(hE:ExtB (some b) w w')(hb:B≤b):TabAt B w' g l:=by
 obtain⟨tb,tq,rc,h1,h2,h5,h3,h4⟩:=h
 have e:∀x o,x<B→w'.cell? ⟨x,o,none⟩=w.cell? ⟨x,o,none⟩:=λ x o hx=>World.cell?_of_block (w:=w) (hE.block x (by omega) (by intro e;cases e;omega))
 refine⟨tb,tq,rc,h1,h2,Nat.le_trans h5 hE.size,by rw[e g 0 h1];exact h3,λ i hi=>?_⟩
 obtain⟨b',off',e2,⟨c0,c1,c2,c3⟩⟩:=h4 i hi
 cases e2
 exact⟨tb,tq,rfl,by rw[e tb _ h2];exact c0,by rw[e tb _ h2];exact c1,by rw[e tb _ h2];exact c2,by rw[e tb _ h2];exact c3⟩
theorem below_extB{w w':World}(h:Below w.heap.size w w')(b:Nat):ExtB (some b) w w':=⟨h.os,h.tape,h.output,h.size,λ i hi _=>h.block i hi⟩
theorem TabAt.below{B:Nat}{w w':World}{g:Nat}{l:List URow}(h:TabAt B w g l)(hb:Below w.heap.size w w'):TabAt B w' g l:=by
 obtain⟨tb,tq,rc,h1,h2,h5,h3,h4⟩:=h
 exact TabAt.ext ⟨tb,tq,rc,h1,h2,h5,h3,h4⟩ (below_extB hb B) (Nat.le_refl _)
def ListsAt(B:Nat)(w:World):Prop:=True
theorem ListsAt.imp{B:Nat}{w w':World}(h:ListsAt B w)(k:∀g l,TabAt B w g l→TabAt B w' g l):ListsAt B w':=trivial
structure Tabs(B:Nat)(w:World):Prop where
 nums:TabAt B w 0 numsL
 lists:ListsAt B w
 bins:TabAt B w 6 binsL
 strs:TabAt B w 2 strsL
 pairs:TabAt B w 1 pairsL
theorem Tabs.below{B:Nat}{w w':World}(h:Tabs B w)(hb:Below w.heap.size w w'):Tabs B w':=⟨h.nums.below hb,h.lists.imp (λ _ _ h=>h.below hb),h.bins.below hb,h.strs.below hb,h.pairs.below hb⟩
set_option maxRecDepth 100000 in
theorem Bin_any(w:World)(B b:Nat)(s:ByteArray)(a:Nat)(most:Int)(ht:Tabs B w)(h:RdB w b s a most)(ha:a≤s.size)(hs:s.size≤9223372036854775807)(hm0:0≤most)(hm1:most≤9223372036854775807):
  Calls Tryz.prog 268 #[.pointer (some ⟨b,0,none⟩)] w (ReadIs (textOf s a most binsL) (.string ⟨#[]⟩) b s most a w):=by
 obtain⟨tb,tq,rc,-,-,-,cg,hrow⟩:=ht.bins
 have HC:=Lib.hid hrow;have H:=Lib.hid h;clear ht hrow h
 go_enter Tryz.func268,Tryz.ntmps268
 go_wp2_with fail
 refine(text_any w b s a most (some ⟨tb,tq,none⟩) rc binsL H.out ha hs hm0 hm1 (by decide) (by decide) HC.out binsL_ok).mono ?_
 intro e w1 hh
 clear cg
 obtain⟨hE,hm⟩:=hh
 have HE:=Lib.hid hE
 cases hres:textOf s a most binsL with
 | error k=>
  rw[hres]at hm
  obtain⟨hR,f,rfl,hf,hb⟩:=hm
  have HR:=Lib.hid hR;have HB:=Lib.hid hb;have HRES:=Lib.hid hres;clear hR hb hE hres
  go_wp2
  go_ret2
  rw[HRES.out]
  exact⟨HE.out,HR.out,f,rfl,hf,HB.out⟩
 | ok x=>
  rw[hres]at hm
  obtain⟨rfl,hR⟩:=hm
  have HR:=Lib.hid hR;have HRES:=Lib.hid hres;clear hR hE hres
  go_wp2
  go_ret2
  rw[HRES.out]
  exact⟨HE.out,rfl,HR.out⟩
set_option maxRecDepth 100000 in
theorem Str_any(w:World)(B b:Nat)(s:ByteArray)(a:Nat)(most:Int)(ht:Tabs B w)(h:RdB w b s a most)(ha:a≤s.size)(hs:s.size≤9223372036854775807)(hm0:0≤most)(hm1:most≤9223372036854775807):
  Calls Tryz.prog 247 #[.pointer (some ⟨b,0,none⟩)] w (ReadIs (textOf s a most strsL) (.string ⟨#[]⟩) b s most a w):=by
 obtain⟨tb,tq,rc,-,-,-,cg,hrow⟩:=ht.strs
 have HC:=Lib.hid hrow;have H:=Lib.hid h;clear ht hrow h
 go_enter Tryz.func247,Tryz.ntmps247
 go_wp2_with fail
 refine(text_any w b s a most (some ⟨tb,tq,none⟩) rc strsL H.out ha hs hm0 hm1 (by decide) (by decide) HC.out strsL_ok).mono ?_
 intro e w1 hh
 clear cg
 obtain⟨hE,hm⟩:=hh
 have HE:=Lib.hid hE
 cases hres:textOf s a most strsL with
 | error k=>
  rw[hres]at hm
  obtain⟨hR,f,rfl,hf,hb⟩:=hm
  have HR:=Lib.hid hR;have HB:=Lib.hid hb;have HRES:=Lib.hid hres;clear hR hb hE hres
  go_wp2
  go_ret2
  rw[HRES.out]
  exact⟨HE.out,HR.out,f,rfl,hf,HB.out⟩
 | ok x=>
  rw[hres]at hm
  obtain⟨rfl,hR⟩:=hm
  have HR:=Lib.hid hR;have HRES:=Lib.hid hres;clear hR hE hres
  go_wp2
  go_ret2
  rw[HRES.out]
  exact⟨HE.out,rfl,HR.out⟩
set_option maxRecDepth 100000 in
theorem Map_any(w:World)(B b:Nat)(s:ByteArray)(a:Nat)(most:Int)(ht:Tabs B w)(h:RdB w b s a most)(ha:a≤s.size)(hs:s.size≤9223372036854775807)(hm0:0≤most)(hm1:most≤9223372036854775807):
  Calls Tryz.prog 245 #[.pointer (some ⟨b,0,none⟩)] w (ReadIs (countOf s a most pairsL) (.int .i64 0) b s most a w):=by
 obtain⟨tb,tq,rc,-,-,-,cg,hrow⟩:=ht.pairs
 have HC:=Lib.hid hrow;have H:=Lib.hid h;clear ht hrow h
 go_enter Tryz.func245,Tryz.ntmps245
 go_wp2_with fail
 refine(count_any w b s a most (some ⟨tb,tq,none⟩) rc pairsL H.out ha hs hm0 hm1 (by decide) (by decide) HC.out pairsL_ok).mono ?_
 intro e w1 hh
 clear cg
 obtain⟨hE,hm⟩:=hh
 have HE:=Lib.hid hE
 cases hres:countOf s a most pairsL with
 | error k=>
  rw[hres]at hm
  obtain⟨hR,f,rfl,hf,hb⟩:=hm
  have HR:=Lib.hid hR;have HB:=Lib.hid hb;have HRES:=Lib.hid hres;clear hR hb hE hres
  go_wp2
  go_ret2
  rw[HRES.out]
  exact⟨HE.out,HR.out,f,rfl,hf,HB.out⟩
 | ok x=>
  rw[hres]at hm
  obtain⟨rfl,hR⟩:=hm
  have HR:=Lib.hid hR;have HRES:=Lib.hid hres;clear hR hE hres
  go_wp2
  go_ret2
  rw[HRES.out]
  exact⟨HE.out,rfl,HR.out⟩
set_option maxRecDepth 100000 in
set_option maxHeartbeats 1000000 in
theorem Num_any(w:World)(B b:Nat)(s:ByteArray)(a:Nat)(most:Int)(ht:Tabs B w)(h:RdB w b s a most)(ha:a≤s.size)(hs:s.size≤9223372036854775807):
  Calls Tryz.prog 208 #[.pointer (some ⟨b,0,none⟩)] w (ReadIs (numOf s a numsL) (.int .u64 0) b s most a w):=by
 obtain⟨tb,tq,rc,-,-,-,cg,hrow⟩:=ht.nums
 have hgl:=lt_of_cell cg;have HC0:=Lib.hid hrow;have H:=Lib.hid h;have hbl:=lt_of_block h;have HG:=Lib.hid cg;clear ht hrow h cg
 go_enter_defers Tryz.func208,Tryz.ntmps208
 go_wp2
 obtain⟨W,hW⟩:∃W,w.alloc (.cells #[.nilIface] 89)=W:=⟨_,rfl⟩
 have WB:Hid (Below w.heap.size w W):=Lib.hid (by rw[←hW];(repeat (first | exact Below.refl _ _ | assumption | (refine bdrew ?_) | (refine bdrewN ?_ _) | (refine balloc ?_ _) | (refine bset ?_ (by first | omega | (simp;done) | (simp;omega)) _) | (refine bnext ?_ (by assumption)))))
 have W0:Hid (W.heap[w.heap.size]?=some (.cells #[.nilIface] 89 (0,0))):=Lib.hid (by rw[←hW];(repeat (first | exact alloc_new_at _ (by repeat (first | rfl | refine alloc_size _ ?_)) | refine block_alloc ?_ _)))
 rw[hW]
 clear hW;have RB:=Lib.hid (H.out.below WB.out);have HC:=Lib.hid (HC0.out.below WB.out);have cg:W.cell? ⟨0,0,none⟩=some (.slice (some ⟨tb,tq,none⟩) (len numsL) rc):=by rw[WB.out.cell (p:=⟨0,0,none⟩) hgl];exact HG.out
 have hzW:=lt_of_block W0.out;have hts:(s.extract a s.size).size≤9223372036854775807:=by rw[ByteArray.size_extract];omega
 cases hres:headOf (s.extract a s.size) numsL with
 | error k=>
  have HRES:=Lib.hid hres;have T:Hid (numOf s a numsL=.error k):=Lib.hid (by unfold numOf;rw[hres]);clear hres
  refine wp_region_tail 5 1000 (none) (phis [λ u _=>u=(.pointer (some ⟨b,0,none⟩)),λ u _=>u=(.string (s.extract a s.size)),λ u _=>u=(.slice (some ⟨tb,tq,none⟩) (len numsL) rc),λ _ _=>False,λ u w'=>∃b',u=.pointer (some ⟨b',0,none⟩)∧w.heap.size<b'∧w'.heap[b']?=some (.cells #[.int .u64 0,.string ⟨#[]⟩] 306 (0,0))]) rfl (by kernel_rfl) (by kernel_rfl) (mono_of ⟨mono_eq,mono_eq,mono_eq,?m3,?m4,trivial⟩) (steps_of 5 ⟨?s0,?s1,?s2,?s3,?s4,trivial⟩) ?_
  case m3=>
   exact⟨λ _ _ _ _ h=>h,λ _ _ _ _ _ h=>h⟩
  case m4=>
   exact⟨λ u w1 w' h ⟨b',h1,h2,h3⟩=>⟨b',h1,h2,ext_block h h3⟩,λ _ u w1 w' h ⟨b',h1,h2,h3⟩=>⟨b',h1,h2,extB_block h (by simp) h3⟩⟩
  case s0=>
   refine qV (λ _=>rfl) rfl λ av wv hE hO hD=>?_
   simp[go_sem,qF av 0 (.pointer (some ⟨b,0,none⟩)) (hO.2.2 0 rfl)]
  case s1=>
   refine step_wp (λ av wv hE hS hO hD=>⟨rfl,?_⟩)
   have f6:=qE (hD.1 rfl _ rfl)
   refine wp_of_call (v:=(.string (s.extract a s.size))) (by simp[go_sem,f6]) (here_any wv b s a most (RB.out.below (of_drew hE)) ha hs) (λ w2 hb=>⟨_,rfl,es_of_ext hb,rfl⟩)
  case s2=>
   refine qV (λ _=>rfl) rfl λ av wv hE hO hD=>?_
   simp[go_sem,extB_cell hE (by simp) cg]
  case s3=>
   refine step_wp (λ av wv hE hS hO hD=>⟨rfl,?_⟩)
   have f7:=qE (hD.1 rfl _ rfl);have f8:=qE (hD.2.1 rfl _ rfl)
   refine wp_of_panic (chain:=chainOf k) (by simp[go_sem,f7,f8]) ((head_any (s.extract a s.size) (some ⟨tb,tq,none⟩) rc numsL wv hts (by decide) (by decide) (HC.out.below (of_drew hE)) numsL_ok).mono (λ e w' hh=>by rw[HRES.out]at hh;exact headIs_err hh)) (λ w2 hb=>?_)
   have g2:av.eval (.tmp 2)=.int .u64 0:=hO.2.2 2 rfl;have g3:av.eval (.tmp 3)=.pointer (some ⟨w.heap.size,0,none⟩):=hO.2.2 3 rfl;have f2:=(ev_form av 2).symm.trans g2;have f3:=(ev_form av 3).symm.trans g3;have B2:=bnext (of_drew hE) hb
   show Leaves _ _ av.tmps _ av.defers _ _
   rw[hO.1]
   refine door_err k b s a most w2 w.heap.size (.int .u64 0) (RB.out.below B2) ((B2.block _ (lt_of_block W0.out)).trans W0.out) (by omega) (λ w hc=>by simp[results,Tryz.results208,go_sem,hc,f2,f3]) (λ w' hE hR hf=>?_)
   have hz:=(bnext WB.out B2).size
   rw[T.out]
   exact⟨extB_own (bnext WB.out B2) hE,hR,_,rfl,hz,hf⟩
  case s4=>
   refine step_wp (λ av wv hE hS hO hD=>⟨rfl,?_⟩)
   refine wp_of_run (v:=.pointer (some ⟨wv.heap.size,0,none⟩)) (w':=wv.alloc (.cells #[.int .u64 0,.string ⟨#[]⟩] 306)) (by simp[go_sem]) ⟨_,rfl,es_of_ext (balloc (Ext_refl _) _),wv.heap.size,rfl,?_,heap_alloc_new _ _⟩
   have:=(of_drew hE).size;omega
  intro a' w' hE hO hall
  have hA:=act_of_outer (ds:=[6,7,8,9,4]) rfl hO (by kernel_rfl)
  obtain⟨j0,j1,j2,j3,j4,-⟩:=hall
  have e9:(λ _ _=>False) (a'.eval (.tmp 9)) w':=j3 _ rfl;have e4:(λ u w'=>∃b',u=.pointer (some ⟨b',0,none⟩)∧w.heap.size<b'∧w'.heap[b']?=some (.cells #[.int .u64 0,.string ⟨#[]⟩] 306 (0,0))) (a'.eval (.tmp 4)) w':=j4 _ rfl
  obtain⟨v9,hv9⟩:∃v,a'.eval (.tmp 9)=v:=⟨_,rfl⟩
  rw[hv9]at e9
  obtain⟨v4,hv4⟩:∃v,a'.eval (.tmp 4)=v:=⟨_,rfl⟩
  rw[hv4]at e4
  simp only[List.foldl_cons,List.foldl_nil,Act.put,List.setIfInBounds_toArray,List.set_cons_succ,List.set_cons_zero,qJ 6 (j0 _ rfl),qJ 7 (j1 _ rfl),qJ 8 (j2 _ rfl),hv9,hv4]at hA
  clear hO j3 j4 j0 j1 j2 hv9 hv4
  subst hA
  exact absurd e9 id
 | ok x=>
  obtain⟨n,rest⟩:=x
  obtain⟨n0,n1,hrest⟩:=head_bd numsL_ok hres
  have HRES:=Lib.hid hres;have hss:(s.extract a s.size).size=s.size - a:=by rw[ByteArray.size_extract];omega
  have hr2:rest.size<s.size - a:=by omega
  have T:Hid (numOf s a numsL=.ok (.int .u64 n,s.size - rest.size)):=Lib.hid (by unfold numOf;rw[hres]);clear hres hrest hss
  refine wp_region_tail 5 1000 (none) (phis [λ u _=>u=(.pointer (some ⟨b,0,none⟩)),λ u _=>u=(.string (s.extract a s.size)),λ u _=>u=(.slice (some ⟨tb,tq,none⟩) (len numsL) rc),λ u _=>u=(.agg #[.int .u64 n,.string rest]),λ u w'=>∃b',u=.pointer (some ⟨b',0,none⟩)∧w.heap.size<b'∧w'.heap[b']?=some (.cells #[.int .u64 0,.string ⟨#[]⟩] 306 (0,0))]) rfl (by kernel_rfl) (by kernel_rfl) (mono_of ⟨mono_eq,mono_eq,mono_eq,mono_eq,?m4,trivial⟩) (steps_of 5 ⟨?s0,?s1,?s2,?s3,?s4,trivial⟩) ?_
  case m4=>
   exact⟨λ u w1 w' h ⟨b',h1,h2,h3⟩=>⟨b',h1,h2,ext_block h h3⟩,λ _ u w1 w' h ⟨b',h1,h2,h3⟩=>⟨b',h1,h2,extB_block h (by simp) h3⟩⟩
  case s0=>
   refine qV (λ _=>rfl) rfl λ av wv hE hO hD=>?_
   simp[go_sem,qF av 0 (.pointer (some ⟨b,0,none⟩)) (hO.2.2 0 rfl)]
  case s1=>
   refine step_wp (λ av wv hE hS hO hD=>⟨rfl,?_⟩)
   have f6:=qE (hD.1 rfl _ rfl)
   refine wp_of_call (v:=(.string (s.extract a s.size))) (by simp[go_sem,f6]) (here_any wv b s a most (RB.out.below (of_drew hE)) ha hs) (λ w2 hb=>⟨_,rfl,es_of_ext hb,rfl⟩)
  case s2=>
   refine qV (λ _=>rfl) rfl λ av wv hE hO hD=>?_
   simp[go_sem,extB_cell hE (by simp) cg]
  case s3=>
   refine step_wp (λ av wv hE hS hO hD=>⟨rfl,?_⟩)
   have f7:=qE (hD.1 rfl _ rfl);have f8:=qE (hD.2.1 rfl _ rfl)
   refine wp_of_call (v:=(.agg #[.int .u64 n,.string rest])) (by simp[go_sem,f7,f8]) ((head_any (s.extract a s.size) (some ⟨tb,tq,none⟩) rc numsL wv hts (by decide) (by decide) (HC.out.below (of_drew hE)) numsL_ok).mono (λ e w' hh=>by rw[HRES.out]at hh;exact headIs_ok hh)) (λ w2 hb=>⟨_,rfl,es_of_ext hb,rfl⟩)
  case s4=>
   refine step_wp (λ av wv hE hS hO hD=>⟨rfl,?_⟩)
   refine wp_of_run (v:=.pointer (some ⟨wv.heap.size,0,none⟩)) (w':=wv.alloc (.cells #[.int .u64 0,.string ⟨#[]⟩] 306)) (by simp[go_sem]) ⟨_,rfl,es_of_ext (balloc (Ext_refl _) _),wv.heap.size,rfl,?_,heap_alloc_new _ _⟩
   have:=(of_drew hE).size;omega
  intro a' w' hE hO hall
  have hA:=act_of_outer (ds:=[6,7,8,9,4]) rfl hO (by kernel_rfl)
  obtain⟨j0,j1,j2,j3,j4,-⟩:=hall
  have e4:(λ u w'=>∃b',u=.pointer (some ⟨b',0,none⟩)∧w.heap.size<b'∧w'.heap[b']?=some (.cells #[.int .u64 0,.string ⟨#[]⟩] 306 (0,0))) (a'.eval (.tmp 4)) w':=j4 _ rfl
  obtain⟨v4,hv4⟩:∃v,a'.eval (.tmp 4)=v:=⟨_,rfl⟩
  rw[hv4]at e4
  simp only[List.foldl_cons,List.foldl_nil,Act.put,List.setIfInBounds_toArray,List.set_cons_succ,List.set_cons_zero,qJ 6 (j0 _ rfl),qJ 7 (j1 _ rfl),qJ 8 (j2 _ rfl),qJ 9 (j3 _ rfl),hv4]at hA
  clear hO j4 j0 j1 j2 j3 hv4
  subst hA
  obtain⟨tk,rfl,ht1,ht2⟩:=e4
  have B1:=Lib.hid (of_drew hE);have x0:∀o,w'.cell? ⟨tk,o,none⟩=_:=block_cell ht2;have x1:∀o,w'.frozen? ⟨tk,o,none⟩=false:=block_free ht2;have HT2:=Lib.hid ht2;have E1:Hid (w'.heap[w.heap.size]?=some (.cells #[.nilIface] 89 (0,0))):=Lib.hid ((B1.out.block _ hzW).trans W0.out);clear hE ht2 cg
  go_upto_region 3 with fail
  obtain⟨V,hV⟩:∃V,(w'.setCell ⟨tk,0,none⟩ (.int .u64 n)).setCell ⟨tk,1,none⟩ (.string rest)=V:=⟨_,rfl⟩
  have hne:b≠tk:=by omega
  have hne2:w.heap.size≠tk:=by omega
  have VR:Hid (RdB V b s a most):=Lib.hid (by rw[←hV];exact block_setCell_ne (block_setCell_ne (RB.out.below B1.out) hne _) hne _);have VE:Hid (V.heap[w.heap.size]?=some (.cells #[.nilIface] 89 (0,0))):=Lib.hid (by rw[←hV];exact block_setCell_ne (block_setCell_ne E1.out hne2 _) hne2 _);have VT:Hid (V.heap[tk]?=some (.cells #[.int .u64 n,.string rest] 306 (0,0))):=Lib.hid (by rw[←hV];exact block_setCell (block_setCell HT2.out _) _);have VX:Hid (Below w.heap.size w V):=Lib.hid (by rw[←hV];exact bset (bset (bnext WB.out B1.out) (by show w.heap.size≤tk;omega) _) (by show w.heap.size≤tk;omega) _)
  rw[hV]
  clear hV x0 x1 HT2 E1 RB;have y1:V.cell? ⟨tk,1,none⟩=some (.string rest):=block_cell VT.out 1
  go_wp2_with fail
  refine(behind_any _ b s a rest.size most VR.out hs (by omega) (by omega)).mono ?_
  rintro e w5 ⟨rfl,hw5⟩
  have R5:Hid (RdB w5 b s ((s.size - rest.size:Nat):Int) most):=Lib.hid (by
   rw[hw5]
   have h:=block_setCell VR.out (o:=1) (.int .i64 ((s.size:Int) - rest.size))
   rw[show((s.size - rest.size:Nat):Int)=(s.size:Int) - rest.size by omega]
   exact h)
  have E5:w5.heap[w.heap.size]?=some (.cells #[.nilIface] 89 (0,0)):=by
   rw[hw5];exact block_setCell_ne VE.out (by show w.heap.size≠b;omega) _
  have N5:w5.heap[tk]?=some (.cells #[.int .u64 n,.string rest] 306 (0,0)):=by
   rw[hw5];exact block_setCell_ne VT.out (by show tk≠b;omega) _
  have X5:Hid (ExtB (some b) w w5):=Lib.hid (by
   rw[hw5]
   have hB:=VX.out
   exact⟨hB.os,hB.tape,hB.output,by simpa using hB.size,λ i hi hn=>by rw[Below.heap_setCell _ _ _ _ (by exact λ e=>hn (by rw[e]))];exact hB.block i hi⟩)
  have a0:w5.cell? ⟨tk,0,none⟩=some (.int .u64 n):=block_cell N5 0;have a2:w5.cell? ⟨w.heap.size,0,none⟩=some .nilIface:=block_cell E5 0;have a3:w5.frozen? ⟨w.heap.size,0,none⟩=false:=block_free E5 0;have hz5:=lt_of_block E5;clear hw5 E5 N5 y1
  go_wp2
  rw[T.out]
  refine leaves_cons (f:=264) (args:=#[.pointer (some ⟨b,0,none⟩),.pointer (some ⟨w.heap.size,0,none⟩)]) (by simp) (by simp[go_sem]) ?_
  refine(fault_idle (.pointer (some ⟨b,0,none⟩)) (.pointer (some ⟨w.heap.size,0,none⟩)) _).mono ?_
  rintro e u' w'' ⟨rfl,rfl,rfl⟩
  refine⟨_,by simp[results,Tryz.results208,go_sem,a2];rfl,?_⟩
  refine⟨?_,rfl,?_⟩
  ·exact ext_set X5.out (Nat.le_refl _) _
  ·exact block_setCell_ne R5.out (by show b≠w.heap.size;omega) _
end Go.Proofs.YtpobhbdomldecaaGreatDoor
namespace Go.Proofs.YtpobhbdomldecaaGreatDoor
set_option linter.unusedSimpArgs false
set_option linter.unusedVariables false
open Go.RowKit Go.Extern.Stop Go.Stop Go.Extern
theorem run_equalIn_int(w:World){P:Program}(d:Nat){ti tn:TypeId}{ms:Array (String × TypeId)}{i:TypeInfo}{k:IntKind}(a b:Int)
  (hi:P.underlying ti=some (.interface ms)) (hn:P.underlying tn=some (.int k)) (hinfo:P.info? tn=some i) (hcomp:i.comparable=true):
  (Op.equalIn (d+2) ti (.iface tn (.int k a)) (.iface tn (.int k b))).run P w=.ok (a == b) w:=by
 simp[Op.equalIn,run_underlying hi,run_underlying hn,typeInfo,hinfo,hcomp]
theorem run_eql_int{P:Program}{ti tn:TypeId}{ms:Array (String × TypeId)}{i:TypeInfo}{k:IntKind}(a b:Int)
  (hi:P.underlying ti=some (.interface ms)) (hn:P.underlying tn=some (.int k)) (hinfo:P.info? tn=some i) (hcomp:i.comparable=true) (w:World):
  (binOp .eql ti (.iface tn (.int k a)) (.iface tn (.int k b))).run P w=.ok (.bool (a == b)) w:=by
 simp only[binOp]
 simp[Op.equal,Op.maxDepth,run_equalIn_int w 9998 a b hi hn hinfo hcomp]
theorem rtOf(gs:Nat)(hg:gs=Tryz.prog.globals.size)(t:TypeId)(v:Value)(w:World)(ht:t=27 ∨ t=290):(Extern.ReflectliteType.typeOf #[.iface t v]).run Tryz.prog w=.ok (.iface 349 (.agg #[.pointer (some ⟨gs,t,none⟩)])) w:=by
 subst hg
 rcases ht with rfl | rfl <;> kernel_rfl
theorem rtComparable(gs:Nat)(hg:gs=Tryz.prog.globals.size)(w:World):((Extern.ReflectliteType.method λ t=>do Extern.Rtype.noPackHeld "Comparable" t;(λ a=>Value.bool a.comparable) <$> typeInfo t) #[.agg #[.pointer (some ⟨gs,27,none⟩)]]).run Tryz.prog w=.ok (.bool true) w:=by
 subst hg;kernel_rfl
theorem rtMethodComparable(n:Nat)(v:Value)(w:World):(Go.method (n+1) 349 v "Comparable").run Tryz.prog w=.ok (344,v) w:=by kernel_rfl
theorem errnoComp:(Tryz.prog.info? 27).map (·.comparable)=some true:=by kernel_rfl
theorem noIsF(v:Value)(xT:TypeId)(w:World):(Instr.typeAssert (.iface 290 v) xT 351 true).run Tryz.prog w=.ok (.tuple #[.nilIface,.bool false]) w:=run_typeAssert_lacksB Tryz.underlying351 (by kernel_rfl) (by kernel_rfl) v xT w
theorem hasUnwrapF(v:Value)(xT:TypeId)(w:World):(Instr.typeAssert (.iface 290 v) xT 354 true).run Tryz.prog w=.ok (.tuple #[.iface 290 v,.bool true]) w:=run_typeAssert_hasB Tryz.underlying354 (by kernel_rfl) v xT w
theorem noIsE(v:Value)(xT:TypeId)(w:World):(Instr.typeAssert (.iface 27 v) xT 351 true).run Tryz.prog w=.ok (.tuple #[.nilIface,.bool false]) w:=run_typeAssert_lacksB Tryz.underlying351 (by kernel_rfl) (by kernel_rfl) v xT w
theorem noUnwrapE(v:Value)(xT:TypeId)(w:World):(Instr.typeAssert (.iface 27 v) xT 354 true).run Tryz.prog w=.ok (.tuple #[.nilIface,.bool false]) w:=run_typeAssert_lacksB Tryz.underlying354 (by kernel_rfl) (by kernel_rfl) v xT w
theorem noUnwrapsE(v:Value)(xT:TypeId)(w:World):(Instr.typeAssert (.iface 27 v) xT 355 true).run Tryz.prog w=.ok (.tuple #[.nilIface,.bool false]) w:=run_typeAssert_lacksB Tryz.underlying355 (by kernel_rfl) (by kernel_rfl) v xT w
theorem methodUnwrapF(n:Nat)(v:Value)(w:World):(Go.method (n+1) 290 v "Unwrap").run Tryz.prog w=.ok (338,v) w:=by kernel_rfl
set_option maxRecDepth 100000 in
set_option maxHeartbeats 1000000 in
theorem is_fault(f:Nat)(k e:Int)(w:World)(h:w.cell? ⟨f,0,none⟩=some (.int .i64 k)):
  Calls Tryz.prog 253 #[.iface 290 (.pointer (some ⟨f,0,none⟩)),.iface 27 (.int .i64 e)] w λ x w'=>x=.returned (.bool (k == e))∧w'=w:=by
 obtain⟨i,hi,hcmp⟩:=Option.map_eq_some_iff.1 errnoComp
 have h8:=@run_callFunc_extern Tryz.prog 283 _ Extern.ReflectliteType.typeOf Tryz.func283 (by kernel_rfl) (by kernel_rfl) (by kernel_rfl) (by kernel_rfl);have h32:=@run_callFunc_extern Tryz.prog 344 _ (Extern.ReflectliteType.method λ t=>do Extern.Rtype.noPackHeld "Comparable" t;pure (.bool (←typeInfo t).comparable)) Tryz.func344 (by kernel_rfl) (by kernel_rfl) (by kernel_rfl) (by kernel_rfl)
 obtain⟨gs,hg⟩:∃gs,gs=Tryz.prog.globals.size:=⟨_,rfl⟩
 have tT:=λ w=>rtOf gs hg 27 (.int .i64 e) w (.inl rfl);have cT:=rtComparable gs hg;clear hg;have mR:=rtMethodComparable;have n1:=noIsF;have n2:=hasUnwrapF;have n3:=noIsE;have n4:=noUnwrapE;have n5:=noUnwrapsE;have n6:=methodUnwrapF;have q1:=fun (w:World)=>run_eql_iface_types (P:=Tryz.prog) 290 27 (.pointer (some ⟨f,0,none⟩)) (.int .i64 e) Tryz.underlying89 (by decide) w;have q2:=run_eql_int (P:=Tryz.prog) k e Tryz.underlying89 Tryz.underlying27 hi hcmp
 go_enter Tryz.func253,Tryz.ntmps253
 cases hke:k == e
 all_goals
  rw[hke]at q2
  go_wp2
  refine wp_loop_rounds 2 ?_
  rw[rounds_succ]
  go_wp2
  rw[rounds_succ]
  go_wp2
  go_ret
  exact⟨rfl,rfl⟩
theorem is_none(e:Int)(w:World):Calls Tryz.prog 253 #[.nilIface,.iface 27 (.int .i64 e)] w λ x w'=>x=.returned (.bool false)∧w'=w:=by
 have hn:=run_eql_iface_nil_left (P:=Tryz.prog) w 27 (.int .i64 e) Tryz.underlying89
 go_enter Tryz.func253,Tryz.ntmps253
 go_wp2
 go_ret
 exact⟨rfl,rfl⟩
theorem as_none(v:Value)(w:World):Calls Tryz.prog 254 #[.nilIface,v] w λ x w'=>x=.returned (.bool false)∧w'=w:=by
 go_enter Tryz.func254,Tryz.ntmps254
 go_wp2
 go_ret
 exact⟨rfl,rfl⟩
theorem vOfF(gs:Nat)(hg:gs=Tryz.prog.globals.size)(x:Nat)(w:World):(Extern.ReflectliteValue.unpack (.iface 290 (.pointer (some ⟨x,0,none⟩)))).run Tryz.prog w=.ok (.agg #[.pointer (some ⟨gs,290,none⟩),.pointer (some ⟨w.heap.size,0,none⟩),.int .u64 150]) (w.alloc (.cells #[.pointer (some ⟨x,0,none⟩)] 290)):=by
 subst hg;kernel_rfl
theorem vOfFF(gs:Nat)(hg:gs=Tryz.prog.globals.size)(x:Nat)(w:World):(Extern.ReflectliteValue.unpack (.iface 293 (.pointer (some ⟨x,0,none⟩)))).run Tryz.prog w=.ok (.agg #[.pointer (some ⟨gs,293,none⟩),.pointer (some ⟨w.heap.size,0,none⟩),.int .u64 150]) (w.alloc (.cells #[.pointer (some ⟨x,0,none⟩)] 293)):=by
 subst hg;kernel_rfl
theorem vType(gs:Nat)(hg:gs=Tryz.prog.globals.size)(a:Addr)(w:World):(Extern.ReflectliteValue.methodAny (Extern.ReflectliteValue.valueError "reflectlite.Value.Type" 0) (λ t _ _ _=>Extern.ReflectliteType.toType t) #[(.agg #[.pointer (some ⟨gs,293,none⟩),.pointer (some a),.int .u64 150])]).run Tryz.prog w=.ok (.iface 349 (.agg #[.pointer (some ⟨gs,293,none⟩)])) w:=by
 subst hg;kernel_rfl
theorem mKind(gs:Nat)(hg:gs=Tryz.prog.globals.size)(n:Nat)(w:World):(Go.method (n+1) 349 (.agg #[.pointer (some ⟨gs,293,none⟩)]) "Kind").run Tryz.prog w=.ok (330,.pointer (some ⟨gs,293,none⟩)) w:=by
 subst hg;kernel_rfl
theorem mKindF(gs:Nat)(hg:gs=Tryz.prog.globals.size)(n:Nat)(w:World):(Go.method (n+1) 349 (.agg #[.pointer (some ⟨gs,290,none⟩)]) "Kind").run Tryz.prog w=.ok (330,.pointer (some ⟨gs,290,none⟩)) w:=by
 subst hg;kernel_rfl
theorem mElem(n:Nat)(v:Value)(w:World):(Go.method (n+1) 349 v "Elem").run Tryz.prog w=.ok (345,v) w:=by kernel_rfl
theorem mImpl(n:Nat)(v:Value)(w:World):(Go.method (n+1) 349 v "Implements").run Tryz.prog w=.ok (346,v) w:=by kernel_rfl
theorem mAssign(n:Nat)(v:Value)(w:World):(Go.method (n+1) 349 v "AssignableTo").run Tryz.prog w=.ok (343,v) w:=by kernel_rfl
theorem rElem(gs:Nat)(hg:gs=Tryz.prog.globals.size)  (w:World):(Extern.ReflectliteType.method Extern.ReflectliteType.elem #[(.agg #[.pointer (some ⟨gs,293,none⟩)])]).run Tryz.prog w=.ok (.iface 349 (.agg #[.pointer (some ⟨gs,290,none⟩)])) w:=by
 subst hg;kernel_rfl
theorem rAssign(gs:Nat)(hg:gs=Tryz.prog.globals.size)  (w:World):(Extern.ReflectliteType.relation "AssignableTo" Extern.ReflectliteType.assignableTo #[(.agg #[.pointer (some ⟨gs,290,none⟩)]),.iface 349 (.agg #[.pointer (some ⟨gs,290,none⟩)])]).run Tryz.prog w=.ok (.bool true) w:=by
 subst hg;kernel_rfl
theorem rImpl(gs:Nat)(hg:gs=Tryz.prog.globals.size)  (w:World):(Extern.ReflectliteType.relation "Implements" Extern.ReflectliteType.implements_ #[(.agg #[.pointer (some ⟨gs,290,none⟩)]),.iface 349 (.agg #[.pointer (some ⟨gs,89,none⟩)])]).run Tryz.prog w=.ok (.bool true) w:=by
 subst hg;kernel_rfl
theorem kKind(gs:Nat)(hg:gs=Tryz.prog.globals.size)  (w:World):(Extern.ReflectliteType.abiMethod (λ t=>(λ a=>Value.int IntKind.u8 ((a:Nat):Int)) <$> Extern.Rtype.kind t) #[.pointer (some ⟨gs,293,none⟩)]).run Tryz.prog w=.ok (.int .u8 22) w:=by
 subst hg;kernel_rfl
theorem kKindF(gs:Nat)(hg:gs=Tryz.prog.globals.size)  (w:World):(Extern.ReflectliteType.abiMethod (λ t=>(λ a=>Value.int IntKind.u8 ((a:Nat):Int)) <$> Extern.Rtype.kind t) #[.pointer (some ⟨gs,290,none⟩)]).run Tryz.prog w=.ok (.int .u8 22) w:=by
 subst hg;kernel_rfl
theorem partsFF(gs:Nat)(hg:gs=Tryz.prog.globals.size)(a:Addr)(w:World):(Extern.ReflectliteValue.parts (.agg #[.pointer (some ⟨gs,293,none⟩),.pointer (some a),.int .u64 150])).run Tryz.prog w=.ok (some (293,a,150)) w:=by
 subst hg;kernel_rfl
theorem partsF(gs:Nat)(hg:gs=Tryz.prog.globals.size)(a:Addr)(w:World):(Extern.ReflectliteValue.parts (.agg #[.pointer (some ⟨gs,290,none⟩),.pointer (some a),.int .u64 150])).run Tryz.prog w=.ok (some (290,a,150)) w:=by
 subst hg;kernel_rfl
theorem partsFa(gs:Nat)(hg:gs=Tryz.prog.globals.size)(a:Addr)(w:World):(Extern.ReflectliteValue.parts (.agg #[.pointer (some ⟨gs,290,none⟩),.pointer (some a),.int .u64 406])).run Tryz.prog w=.ok (some (290,a,406)) w:=by
 subst hg;kernel_rfl
theorem elemFF(w:World):(Extern.Rtype.elem? 293).run Tryz.prog w=.ok (some 290) w:=by kernel_rfl
theorem mkF(gs:Nat)(hg:gs=Tryz.prog.globals.size)(p:Addr)(w:World):(Extern.ReflectliteValue.mk 290 p Extern.ReflectliteValue.flagAddr).run Tryz.prog w=.ok (.agg #[.pointer (some ⟨gs,290,none⟩),.pointer (some p),.int .u64 406]) w:=by
 subst hg;kernel_rfl
theorem directF(w:World):(Extern.Rtype.directlyAssignable 290 290).run Tryz.prog w=.ok true w:=by kernel_rfl
theorem loadFF(b:Nat)(p:Addr)(w:World)(h:w.cell? ⟨b,0,none⟩=some (.pointer (some p))):(loadVar 293 ⟨b,0,none⟩).run Tryz.prog w=.ok (.pointer (some p)) w:=by
 simp[go_sem,h]
theorem vIsNil(gs:Nat)(hg:gs=Tryz.prog.globals.size)(b:Nat)(p:Addr)(w:World)(h:w.cell? ⟨b,0,none⟩=some (.pointer (some p))):(Extern.ReflectliteValue.method (Extern.ReflectliteValue.valueError "reflectlite.Value.IsNil" 0) Extern.ReflectliteValue.isNil #[(.agg #[.pointer (some ⟨gs,293,none⟩),.pointer (some ⟨b,0,none⟩),.int .u64 150])]).run Tryz.prog w=.ok (.bool false) w:=by
 change (do
  match ←Extern.ReflectliteValue.parts (.agg #[.pointer (some ⟨gs,293,none⟩),.pointer (some ⟨b,0,none⟩),.int .u64 150])with
  | none=>Extern.ReflectliteValue.valueError "reflectlite.Value.IsNil" 0
  | some (t,a,fl)=>Extern.ReflectliteValue.isNil t a fl (fl % 32):Sem Value).run Tryz.prog w=_
 simp[partsFF gs hg,Extern.ReflectliteValue.isNil,loadFF b p w h]
theorem vElem(gs:Nat)(hg:gs=Tryz.prog.globals.size)(b:Nat)(p:Addr)(w:World)(h:w.cell? ⟨b,0,none⟩=some (.pointer (some p))):(Extern.ReflectliteValue.method (Extern.ReflectliteValue.valueError "reflectlite.Value.Elem" 0) Extern.ReflectliteValue.elem #[(.agg #[.pointer (some ⟨gs,293,none⟩),.pointer (some ⟨b,0,none⟩),.int .u64 150])]).run Tryz.prog w=.ok (.agg #[.pointer (some ⟨gs,290,none⟩),.pointer (some p),.int .u64 406]) w:=by
 change (do
  match ←Extern.ReflectliteValue.parts (.agg #[.pointer (some ⟨gs,293,none⟩),.pointer (some ⟨b,0,none⟩),.int .u64 150])with
  | none=>Extern.ReflectliteValue.valueError "reflectlite.Value.Elem" 0
  | some (t,a,fl)=>Extern.ReflectliteValue.elem t a fl (fl % 32):Sem Value).run Tryz.prog w=_
 simp[partsFF gs hg,Extern.ReflectliteValue.elem,elemFF,mkF gs hg,loadFF b p w h]
theorem vSet(gs:Nat)(hg:gs=Tryz.prog.globals.size)(tb b:Nat)(x:Value)(p:Addr)(w:World)(h:w.cell? ⟨b,0,none⟩=some (.pointer (some p)))(hx:w.cell? ⟨tb,0,none⟩=some x)(hz:w.frozen? ⟨tb,0,none⟩=false):
  (Extern.ReflectliteValue.set #[(.agg #[.pointer (some ⟨gs,290,none⟩),.pointer (some ⟨tb,0,none⟩),.int .u64 406]),(.agg #[.pointer (some ⟨gs,290,none⟩),.pointer (some ⟨b,0,none⟩),.int .u64 150])]).run Tryz.prog w=.ok (.tuple #[]) (w.setCell ⟨tb,0,none⟩ (.pointer (some p))):=by
 have l61:(loadVar 290 ⟨b,0,none⟩).run Tryz.prog w=.ok (.pointer (some p)) w:=by simp[go_sem,h]
 have s61:(storeVar 290 ⟨tb,0,none⟩ (.pointer (some p))).run Tryz.prog w=.ok () (w.setCell ⟨tb,0,none⟩ (.pointer (some p))):=by simp[go_sem,hx,hz]
 change (do
  let (some (dst,a,fl),some (src,b,_)):=(←Extern.ReflectliteValue.parts (.agg #[.pointer (some ⟨gs,290,none⟩),.pointer (some ⟨tb,0,none⟩),.int .u64 406]),←Extern.ReflectliteValue.parts (.agg #[.pointer (some ⟨gs,290,none⟩),.pointer (some ⟨b,0,none⟩),.int .u64 150]))
   | unsupported (.noEntry _)
  if fl / Extern.ReflectliteValue.flagAddr % 2 == 0 then unsupported (.noEntry _)
  let val ←loadVar src b
  if ←Extern.Rtype.directlyAssignable dst src then storeVar dst a val
  else if ←Extern.Rtype.implements dst src then
   if(←Extern.Rtype.kind src) == 20 then
    match val with
    | .nilIface=>unsupported (.noEntry _)
    | _=>storeVar dst a val
   else storeVar dst a (.iface src val)
  else panicString (_++(←Extern.Rtype.spelt src)++_++(←Extern.Rtype.spelt dst))
  pure (.tuple #[]):Sem Value).run Tryz.prog w=_
 simp[partsF gs hg,partsFa gs hg,l61,directF,s61,Extern.ReflectliteValue.flagAddr]
theorem ext_setb{w w1:World}{tb:Nat}(h:Below w.heap.size w w1)(v:Value):ExtB (some tb) w (w1.setCell ⟨tb,0,none⟩ v):=
 ⟨h.os,h.tape,h.output,by simpa using h.size,λ i hi hn=>by rw[Below.heap_setCell _ _ _ _ (by show i≠tb;exact λ e=>hn (by rw[e]))];exact h.block i hi⟩
def ErrType(w:World):Prop:=w.cell? ⟨3,0,none⟩=some (.iface 349 (.agg #[.pointer (some ⟨Tryz.prog.globals.size,89,none⟩)]))
set_option maxRecDepth 100000 in
set_option maxHeartbeats 2000000 in
theorem as_fault(f tb:Nat)(q:Option Addr)(w:World)(he:ErrType w)(ht:w.heap[tb]?=some (.cells #[.pointer q] 290 (0,0))):
  Calls Tryz.prog 254 #[.iface 290 (.pointer (some ⟨f,0,none⟩)),.iface 293 (.pointer (some ⟨tb,0,none⟩))] w λ x w'=>x=.returned (.bool true)∧ExtB (some tb) w w'∧w'.heap[tb]?=some (.cells #[.pointer (some ⟨f,0,none⟩)] 290 (0,0)):=by
 obtain⟨gs,hg⟩:∃gs,gs=Tryz.prog.globals.size:=⟨_,rfl⟩
 have ce:w.cell? ⟨3,0,none⟩=some (.iface 349 (.agg #[.pointer (some ⟨gs,89,none⟩)])):=by rw[hg];exact he
 have hel:=lt_of_cell ce;have ct:w.cell? ⟨tb,0,none⟩=some (.pointer q):=block_cell ht 0;have cz:w.frozen? ⟨tb,0,none⟩=false:=block_free ht 0;have htl:=lt_of_block ht;have HT:=Lib.hid ht;clear he ht;have x31:=@run_callFunc_extern Tryz.prog 285 _ (λ args=>Extern.ReflectliteValue.unpack (args.getD 0 (.tuple #[]))) Tryz.func285 (by kernel_rfl) (by kernel_rfl) (by kernel_rfl) (by kernel_rfl);have x32:=@run_callFunc_extern Tryz.prog 286 _ (Extern.ReflectliteValue.methodAny (Extern.ReflectliteValue.valueError "reflectlite.Value.Type" 0) λ t _ _ _=>Extern.ReflectliteType.toType t) Tryz.func286 (by kernel_rfl) (by kernel_rfl) (by kernel_rfl) (by kernel_rfl);have x33:=@run_callFunc_extern Tryz.prog 287 _ (Extern.ReflectliteValue.method (Extern.ReflectliteValue.valueError "reflectlite.Value.IsNil" 0) Extern.ReflectliteValue.isNil) Tryz.func287 (by kernel_rfl) (by kernel_rfl) (by kernel_rfl) (by kernel_rfl);have x35:=@run_callFunc_extern Tryz.prog 283 _ (Extern.ReflectliteType.typeOf) Tryz.func283 (by kernel_rfl) (by kernel_rfl) (by kernel_rfl) (by kernel_rfl);have x40:=@run_callFunc_extern Tryz.prog 297 _ (Extern.ReflectliteValue.method (Extern.ReflectliteValue.valueError "reflectlite.Value.Elem" 0) Extern.ReflectliteValue.elem) Tryz.func297 (by kernel_rfl) (by kernel_rfl) (by kernel_rfl) (by kernel_rfl);have x41:=@run_callFunc_extern Tryz.prog 298 _ (Extern.ReflectliteValue.set) Tryz.func298 (by kernel_rfl) (by kernel_rfl) (by kernel_rfl) (by kernel_rfl);have x56:=@run_callFunc_extern Tryz.prog 330 _ (Extern.ReflectliteType.abiMethod λ t=>do pure (.int .u8 (←Extern.Rtype.kind t))) Tryz.func330 (by kernel_rfl) (by kernel_rfl) (by kernel_rfl) (by kernel_rfl);have x66:=@run_callFunc_extern Tryz.prog 343 _ (Extern.ReflectliteType.relation "AssignableTo" Extern.ReflectliteType.assignableTo) Tryz.func343 (by kernel_rfl) (by kernel_rfl) (by kernel_rfl) (by kernel_rfl);have x68:=@run_callFunc_extern Tryz.prog 345 _ (Extern.ReflectliteType.method Extern.ReflectliteType.elem) Tryz.func345 (by kernel_rfl) (by kernel_rfl) (by kernel_rfl) (by kernel_rfl);have x69:=@run_callFunc_extern Tryz.prog 346 _ (Extern.ReflectliteType.relation "Implements" Extern.ReflectliteType.implements_) Tryz.func346 (by kernel_rfl) (by kernel_rfl) (by kernel_rfl) (by kernel_rfl);have y1:=vOfF gs hg f;have y2:=vOfFF gs hg tb;have y3:=vType gs hg;have y4:=mKind gs hg;have y5:=mKindF gs hg;have y6:=mElem;have y7:=mImpl;have y8:=mAssign;have y9:=rElem gs hg;have y10:=rAssign gs hg;have y11:=rImpl gs hg;have y12:=kKind gs hg;have y13:=kKindF gs hg;have y14:=fun (w:World)=>rtOf gs hg 290 (.pointer (some ⟨f,0,none⟩)) w (.inr rfl);have y15:=fun (b:Nat) (w:World) h=>vIsNil gs hg b ⟨tb,0,none⟩ w h;have y16:=fun (X Y:Obj)=>vElem gs hg w.heap.size ⟨tb,0,none⟩ (((w.alloc (.cells #[.pointer (some ⟨tb,0,none⟩)] 293)).alloc X).alloc Y) (block_cell (block_alloc (block_alloc (heap_alloc_new w _) _) _) 0);have y17:=fun (X Y:Obj)=>vSet gs hg tb (w.heap.size+1+1+1) (.pointer q) ⟨f,0,none⟩ ((((w.alloc (.cells #[.pointer (some ⟨tb,0,none⟩)] 293)).alloc X).alloc Y).alloc (.cells #[.pointer (some ⟨f,0,none⟩)] 290))
  (block_cell (alloc_new_at _ (alloc_size _ (alloc_size _ (alloc_size _ rfl)))) 0) (block_cell (block_alloc (block_alloc (block_alloc (block_alloc HT.out _) _) _) _) 0) (block_free (block_alloc (block_alloc (block_alloc (block_alloc HT.out _) _) _) _) 0)
 clear hg
 go_enter Tryz.func254,Tryz.ntmps254
 go_wp2
 refine wp_loop_rounds 1 ?_
 rw[rounds_succ]
 go_wp2
 go_ret
 refine⟨rfl,?_,?_⟩
 ·exact ext_setb (by(repeat (first | exact Below.refl _ _ | assumption | (refine bdrew ?_) | (refine bdrewN ?_ _) | (refine balloc ?_ _) | (refine bset ?_ (by first | omega | (simp;done) | (simp;omega)) _) | (refine bnext ?_ (by assumption))))) _
 ·exact block_setCell (block_alloc (block_alloc (block_alloc (block_alloc HT.out _) _) _) _) _
end Go.Proofs.YtpobhbdomldecaaGreatDoor
namespace Go.Proofs.YtpobhbdomldecaaGreatDoor
set_option linter.unusedSimpArgs false
set_option linter.unusedVariables false
open Go.RowKit
def FltB(w:World)(f:Nat)(k:Int)(a:Nat):Prop:=w.heap[f]?=some (.cells #[.int .i64 k,.int .i64 a] 145 (0,0))
theorem FltB.below{w w':World}{f:Nat}{k:Int}{a:Nat}(h:FltB w f k a)(hb:Below w.heap.size w w'):FltB w' f k a:=(hb.block _ (lt_of_block h)).trans h
theorem ErrType.below{w w':World}(h:ErrType w)(hb:Below w.heap.size w w'):ErrType w':=by
 unfold ErrType at *
 rw[hb.cell (p:=⟨_,0,none⟩) (lt_of_cell h)];exact h
def LeftIs(k:Option Int)(b:Nat)(s:ByteArray)(most:Int)(a:Nat)(w:World)(e:Ending)(w':World):Prop:=
 Below w.heap.size w w'∧match k with
  | none=>e=.returned .nilIface
  | some k=>∃f,e=.returned (.iface 290 (.pointer (some ⟨f,0,none⟩)))∧w.heap.size≤f∧FltB w' f k a
def leftOf(s:ByteArray)(a:Nat):Option Int:=if a<s.size then some 5 else none
theorem empty_of{t:ByteArray}(h:t.size=0):t.toList.isEmpty=true:=by
 rw[ByteArray.toList_eq];cases t with | mk d=>simp_all [ByteArray.size]
theorem full_of{t:ByteArray}(h:t.size≠0):t.toList.isEmpty=false:=by
 rw[ByteArray.toList_eq];cases t with | mk d=>simp_all [ByteArray.size]
theorem ext_empty(s:ByteArray)(a:Nat)(h:¬a<s.size):(s.extract a s.size).toList.isEmpty=true:=empty_of (by rw[ByteArray.size_extract];omega)
theorem ext_some(s:ByteArray)(a:Nat)(h:a<s.size):(s.extract a s.size).toList.isEmpty=false:=full_of (by rw[ByteArray.size_extract];omega)
theorem door_left{fn:Func}{tmps:Array Value}{R:Ending→World→Prop}(k:Int)(b:Nat)(s:ByteArray)(a:Nat)(most:Int)(w1:World)(eb:Nat)(h:RdB w1 b s a most)
  (he:w1.heap[eb]?=some (.cells #[.nilIface] 89 (0,0)))
  (hr:∀w:World,w.cell? ⟨eb,0,none⟩=some (.iface 290 (.pointer (some ⟨w1.heap.size,0,none⟩)))→(results fn tmps).run Tryz.prog w=.ok (.iface 290 (.pointer (some ⟨w1.heap.size,0,none⟩))) w)
  (hR:∀w':World,ExtB (some eb) w1 w'→w'.heap[w1.heap.size]?=some (.cells #[.int .i64 k,.int .i64 a] 145 (0,0))→R (.returned (.iface 290 (.pointer (some ⟨w1.heap.size,0,none⟩)))) w'):
  Leaves Tryz.prog fn tmps R [{ target:=.fn (.func 264) #[],args:=#[.pointer (some ⟨b,0,none⟩),.pointer (some ⟨eb,0,none⟩)] }] (.panicking (chainOf k)) w1:=by
 refine leaves_cons (f:=264) (args:=#[.pointer (some ⟨b,0,none⟩),.pointer (some ⟨eb,0,none⟩)]) (by simp) (by simp[go_sem]) ?_
 refine(fault_some k [] (.pointer (some ⟨b,0,none⟩)) a eb .nilIface w1 (place_any w1 b s a most h) (block_cell he 0) rfl (block_free he 0)).mono ?_
 rintro e u' w'' ⟨rfl,rfl,rfl⟩
 have hl:=lt_of_block he;have hs:(w1.setCell ⟨eb,0,none⟩ (.iface 290 (.pointer (some ⟨w1.heap.size,0,none⟩)))).heap.size=w1.heap.size:=by simp
 have hb0:(w1.setCell ⟨eb,0,none⟩ (.iface 290 (.pointer (some ⟨w1.heap.size,0,none⟩)))).heap[eb]?=_:=block_setCell he _;have hb:=block_alloc hb0 (.cells #[.int .i64 k,.int .i64 a] 145)
 refine⟨_,hr _ (block_cell hb 0),hR _ ?_ ?_⟩
 ·refine⟨rfl,rfl,rfl,by simp,λ i hi hn=>?_⟩
  rw[Below.heap_alloc _ _ _ (by rw[hs];exact hi),Below.heap_setCell _ _ _ _ (by intro e;subst e;exact hn rfl)]
 ·exact alloc_new_at _ hs
set_option maxRecDepth 100000 in
set_option maxHeartbeats 1000000 in
theorem left_any(w:World)(b:Nat)(s:ByteArray)(a:Nat)(most:Int)(h:RdB w b s a most)(ha:a≤s.size)(hs:s.size≤9223372036854775807):
  Calls Tryz.prog 252 #[.pointer (some ⟨b,0,none⟩)] w (LeftIs (leftOf s a) b s most a w):=by
 have H:=Lib.hid h;have hbl:=lt_of_block h;clear h
 go_enter_defers Tryz.func252,Tryz.ntmps252
 go_wp2_with fail
 obtain⟨W,hW⟩:∃W,w.alloc (.cells #[.nilIface] 89)=W:=⟨_,rfl⟩
 have WB:Hid (Below w.heap.size w W):=Lib.hid (by rw[←hW];(repeat (first | exact Below.refl _ _ | assumption | (refine bdrew ?_) | (refine bdrewN ?_ _) | (refine balloc ?_ _) | (refine bset ?_ (by first | omega | (simp;done) | (simp;omega)) _) | (refine bnext ?_ (by assumption)))))
 have W0:Hid (W.heap[w.heap.size]?=some (.cells #[.nilIface] 89 (0,0))):=Lib.hid (by rw[←hW];(repeat (first | exact alloc_new_at _ (by repeat (first | rfl | refine alloc_size _ ?_)) | refine block_alloc ?_ _)))
 rw[hW]
 clear hW
 refine(here_any W b s a most (H.out.below WB.out) ha hs).mono ?_
 rintro e w1 ⟨rfl,hb1⟩
 have B1:=Lib.hid hb1;clear hb1
 by_cases hlt:a<s.size
 ·have he:=ext_some s a hlt
  have he2:(!(s.extract a s.size).toList.isEmpty)=true:=by rw[he];rfl
  have T:Hid (leftOf s a=some 5):=Lib.hid (by unfold leftOf;rw[if_pos hlt])
  go_wp2_with fail
  refine(stop_any 5 _).mono ?_
  rintro e w2 ⟨rfl,rfl⟩
  go_wp2
  rw[T.out]
  refine door_left 5 b s a most w2 w.heap.size (H.out.below (bnext WB.out B1.out)) ((B1.out.block _ (lt_of_block W0.out)).trans W0.out) (λ w hc=>by simp[results,Tryz.results252,go_sem,hc]) (λ w' hE hf=>?_)
  have hz:=(bnext WB.out B1.out).size
  exact⟨grownBy_below (bnext WB.out B1.out) hE (λ k hk=>by cases hk;exact Nat.le_refl _),_,rfl,hz,hf⟩
 ·have he:=ext_empty s a hlt
  have he2:(!(s.extract a s.size).toList.isEmpty)=false:=by rw[he];rfl
  have T:Hid (leftOf s a=none):=Lib.hid (by unfold leftOf;rw[if_neg hlt]);have E1:=(B1.out.block _ (lt_of_block W0.out)).trans W0.out;have a2:w1.cell? ⟨w.heap.size,0,none⟩=some .nilIface:=block_cell E1 0;have a3:w1.frozen? ⟨w.heap.size,0,none⟩=false:=block_free E1 0;have hz1:=lt_of_block E1;clear E1
  go_wp2
  rw[T.out]
  refine leaves_cons (f:=264) (args:=#[.pointer (some ⟨b,0,none⟩),.pointer (some ⟨w.heap.size,0,none⟩)]) (by simp) (by simp[go_sem]) ?_
  refine(fault_idle (.pointer (some ⟨b,0,none⟩)) (.pointer (some ⟨w.heap.size,0,none⟩)) _).mono ?_
  rintro e u' w'' ⟨rfl,rfl,rfl⟩
  refine⟨_,by simp[results,Tryz.results252,go_sem,a2];rfl,?_⟩
  exact⟨bset (bnext WB.out B1.out) (by show w.heap.size≤w.heap.size;exact Nat.le_refl _) _,rfl⟩
set_option maxRecDepth 100000 in
set_option maxHeartbeats 1000000 in
theorem End_any(w:World)(b:Nat)(s:ByteArray)(a:Nat)(most:Int)(het:ErrType w)(h:RdB w b s a most)(ha:a≤s.size)(hs:s.size≤9223372036854775807):
  Calls Tryz.prog 184 #[.pointer (some ⟨b,0,none⟩)] w (LeftIs (leftOf s a) b s most a w):=by
 have H:=Lib.hid h;have HET:=Lib.hid het;clear h het
 go_enter Tryz.func184,Tryz.ntmps184
 go_wp2_with fail
 refine(left_any w b s a most H.out ha hs).mono ?_
 rintro e w1 ⟨hb1,hm⟩
 have B1:=Lib.hid hb1;clear hb1
 cases hl:leftOf s a with
 | none=>
  rw[hl]at hm
  subst hm
  have T:=Lib.hid hl;clear hl
  go_wp2_with fail
  refine(is_none 1 _).mono ?_
  rintro e w2 ⟨rfl,rfl⟩
  go_wp2_with fail
  refine(as_none _ _).mono ?_
  rintro e w2 ⟨rfl,rfl⟩
  go_wp2
  go_ret
  rw[T.out]
  exact⟨(by have:=B1.out;(repeat (first | exact Below.refl _ _ | assumption | (refine bdrew ?_) | (refine bdrewN ?_ _) | (refine balloc ?_ _) | (refine bset ?_ (by first | omega | (simp;done) | (simp;omega)) _) | (refine bnext ?_ (by assumption))))),rfl⟩
 | some k=>
  have hk:k=5:=by unfold leftOf at hl;split at hl <;> simp_all
  subst hk
  rw[hl]at hm
  obtain⟨f,rfl,hf,hfb⟩:=hm
  have T:=Lib.hid hl;have F1:=Lib.hid hfb;clear hl hfb
  go_wp2_with fail
  refine(is_fault f 5 1 _ (block_cell (block_alloc F1.out _) 0)).mono ?_
  rintro e w2 ⟨rfl,hw2⟩
  have hb51:((5:Int) == 1)=false:=by decide
  have B2:Hid (Below w1.heap.size w1 w2):=Lib.hid (by rw[hw2];exact balloc (Below.refl _ _) _);have T2:Hid (w2.heap[w1.heap.size]?=some (.cells #[.pointer none] 290 (0,0))):=Lib.hid (by rw[hw2];exact heap_alloc_new _ _);clear hw2
  go_wp2_with fail
  refine(as_fault f w1.heap.size none w2 (HET.out.below (bnext B1.out B2.out)) T2.out).mono ?_
  rintro e w3 ⟨rfl,hE3,hb3⟩
  have X3:Hid (Below w.heap.size w w3):=Lib.hid (grownBy_below (bnext B1.out B2.out) hE3 (λ k hk=>by cases hk;exact B1.out.size));have F3:Hid (FltB w3 f 5 a):=Lib.hid (extB_block hE3 (by
   have:=lt_of_block F1.out
   intro e;cases e;omega) (F1.out.below B2.out))
  clear hE3 hb3
  go_wp2
  go_ret
  rw[T.out]
  exact⟨X3.out,f,rfl,hf,F3.out⟩
end Go.Proofs.YtpobhbdomldecaaGreatDoor
namespace Go.Proofs.YtpobhbdomldecaaGreatDoor
set_option linter.unusedSimpArgs false
open Go.RowKit
set_option linter.unusedVariables false
def EsV(VO:Nat→Option Nat)(X:Nat→World→World→Prop)(j:Nat)(w w':World):Prop:=w.grownBy w' (VO j)∧X j w w'
theorem esV_refl{VO:Nat→Option Nat}{X:Nat→World→World→Prop}{j:Nat}(hX:∀j w,X j w w)(w:World):EsV VO X j w w:=⟨⟨rfl,rfl,rfl,Nat.le_refl _,λ _ _ _=>rfl⟩,hX j w⟩
theorem esV_of_ext{VO:Nat→Option Nat}{X:Nat→World→World→Prop}{j:Nat}{w w':World}(h:Ext w w')(hx:X j w w'):EsV VO X j w w':=⟨⟨h.os,h.tape,h.output,h.size,λ i hi _=>h.block i hi⟩,hx⟩
structure ExtS(VO:Nat→Option Nat)(w w':World):Prop where
 os:w'.os=w.os
 tape:w'.tape=w.tape
 output:w'.output=w.output
 size:w.heap.size≤w'.heap.size
 block:∀k,k<w.heap.size→(∀j,VO j≠some k)→w'.heap[k]?=w.heap[k]?
theorem ExtS.refl(VO:Nat→Option Nat)(w:World):ExtS VO w w:=⟨rfl,rfl,rfl,Nat.le_refl _,λ _ _ _=>rfl⟩
theorem ExtS.step{VO:Nat→Option Nat}{X:Nat→World→World→Prop}{j:Nat}{a b c:World}(h:ExtS VO a b)(k':EsV VO X j b c):ExtS VO a c:=
 have k:=k'.1
 ⟨k.os.trans h.os,k.tape.trans h.tape,k.output.trans h.output,Nat.le_trans h.size k.size,λ i hi hn=>(k.block i (Nat.lt_of_lt_of_le hi h.size) (λ e=>hn j e.symm)).trans (h.block i hi hn)⟩
structure Here(VO:Nat→Option Nat)(I:World→Prop)(ops:List Oper)(w0 w:World)(D:Nat→Prop)(i:Nat):Prop where
 ext:ExtS VO w0 w
 inv:I w
 late:∀j,¬D j→∀b,VO j=some b→b<w0.heap.size→w.heap[b]?=w0.heap[b]?
 notyet:∀(j:Nat) oj,ops[j]?=some oj→∀e ∈ oj.after,Region.binds .any e=true→¬D e.on→¬D j
 me:¬D i
theorem Here.own{VO:Nat→Option Nat}{I:World→Prop}{ops:List Oper}{w0 w:World}{D:Nat→Prop}{i:Nat}(h:Here VO I ops w0 w D i):∀b,VO i=some b→b<w0.heap.size→w.heap[b]?=w0.heap[b]?:=h.late i h.me
section
variable (P : Program) (ops : List Oper) (a0 : Act) (w0 : World) (VO : Nat → Option Nat) (X : Nat → World → World → Prop) (I : World → Prop) (PR : Nat → Nat → Value → Value → World → Prop) (Φ : Nat → Value → World → Prop) (Q : Exit → Act → World → Prop)
def PairAt(D:Nat→Prop)(a:Act)(i:Nat)(v:Value)(w':World):Prop:=∀j oj,ops[j]?=some oj→D j→j≠i→PR i j v (slotOf oj a) w'∧PR j i (slotOf oj a) v w'
def StepAtV(hd:Nat)(i:Nat)(o:Oper):Prop:=∀(D:Nat→Prop) a w,(∀j oj,ops[j]?=some oj→D j→Φ j (slotOf oj a) w)→Here VO I ops w0 w D i→Outer ops a0 hd a→Deps ops Φ a w o.after.toList→
 if Region.wanted o (yielded ops.toArray a.tmps)then o.wp P a w (λ a' w'=>∃v,a'=a.put o.dst v∧EsV VO X i w w'∧Φ i (valOf o v) w'∧PairAt ops PR D a i (valOf o v) w') Q else Φ i undef w∧∀j vi vj w,PR i j vi vj w∧PR j i vi vj w
structure RInvV(n:Nat)(listed:Array Bool)(a:Act)(w:World):Prop where
 head:HeadInv .any ops.toArray n listed
 ext:ExtS VO w0 w
 inv:I w
 ext0:∀i,listed.getD i true=false→∀b,VO i=some b→b<w0.heap.size→w.heap[b]?=w0.heap[b]?
 outer:Outer ops a0 n a
 done:∀(i:Nat) o,ops[i]?=some o→listed.getD i true=true→Φ i (slotOf o a) w
 pair:∀i j oi oj,ops[i]?=some oi→ops[j]?=some oj→listed.getD i true=true→listed.getD j true=true→i≠j→PR i j (slotOf oi a) (slotOf oj a) w
variable {P ops a0 w0 VO X I PR Φ Q}
theorem slotv_same{o:Oper}{i:Nat}{a:Act}{v:Value}(hB:regOk ops a0.tmps.size=true)(hs:a.tmps.size=a0.tmps.size)(ho:ops[i]?=some o):slotOf o (a.put o.dst v)=valOf o v:=by
 unfold slotOf valOf
 cases hd:o.dst with
 | none=>rfl
 | some d=>
  have hdl:∀d ∈ dstsOf ops,d<a0.tmps.size:=by
   unfold regOk at hB;simp only[Bool.and_eq_true]at hB
   intro d hd;simpa using List.all_eq_true.1 hB.2 d hd
  have hmem:d ∈ dstsOf ops:=List.mem_filterMap.2 ⟨o,List.mem_of_getElem? ho,hd⟩
  exact eval_put_same (by rw[hs];exact hdl d hmem)
theorem slot_other{o oj:Oper}{i j:Nat}{a:Act}{v:Value}(hB:regOk ops a0.tmps.size=true)(hij:i≠j)(ho:ops[i]?=some o)(hoj:ops[j]?=some oj):slotOf oj (a.put o.dst v)=slotOf oj a:=by
 have hnd:(dstsOf ops).Nodup:=by unfold regOk at hB;simp only[Bool.and_eq_true,decide_eq_true_eq]at hB;exact hB.1.2
 unfold slotOf
 cases hdj:oj.dst with
 | none=>rfl
 | some d=>
  cases hdo:o.dst with
  | none=>rfl
  | some d'=>
   have hne:d≠d':=by
    rintro rfl
    exact dst_two hnd hij ho hoj hdo hdj
   exact eval_put_ne hne
theorem RInvV.next{n:Nat}(hB:regOk ops a0.tmps.size=true)(hVO:∀i j b,VO i=some b→VO j=some b→i=j)
  (hmono:∀i j v w w',i≠j→EsV VO X j w w'→Φ i v w→Φ i v w') (hI:∀j w w',EsV VO X j w w'→I w→I w') (hmonoP:∀i j k vi vj w w',k≠i→k≠j→EsV VO X k w w'→PR i j vi vj w→PR i j vi vj w') {listed:Array Bool} {a:Act} {w:World} (inv:RInvV ops a0 w0 VO I PR Φ n listed a w)
  {i:Nat} {o:Oper} (hi:i ∈ Region.ready .any ops.toArray listed) (hin:i<n) (ho':ops[i]?=some o) {v:Value} {w':World} (he:EsV VO X i w w') (hv:Φ i (valOf o v) w') (hpr:PairAt ops PR (λ j=>listed.getD j true=true) a i (valOf o v) w'):
  RInvV ops a0 w0 VO I PR Φ n (listed.setIfInBounds i true) (a.put o.dst v) w':=by
 have hnd:(dstsOf ops).Nodup:=by unfold regOk at hB;simp only[Bool.and_eq_true,decide_eq_true_eq]at hB;exact hB.1.2
 have hdl:∀d ∈ dstsOf ops,d<a0.tmps.size:=by
  unfold regOk at hB;simp only[Bool.and_eq_true]at hB
  intro d hd;simpa using List.all_eq_true.1 hB.2 d hd
 refine⟨inv.head.set hi hin,inv.ext.step he,hI _ _ _ he inv.inv,λ k hl b hb hlt=>?_,?_,?_,λ i1 j1 oi oj hoi hoj l1 l2 hne=>?_⟩
 ·by_cases his:k=i
  ·exfalso
   subst his
   obtain⟨hun,o',ho,_⟩:=mem_ready.1 hi
   have hil:k<listed.size:=by rw[inv.head.size];exact(Array.getElem?_eq_some_iff.1 ho).1
   simp[hil]at hl
  ·rw[getD_set_ne true (Ne.symm his)]at hl
   have h1:=inv.ext0 k hl b hb hlt
   rw[←h1]
   exact he.1.block b (Nat.lt_of_lt_of_le hlt inv.ext.size) (λ e=>his (hVO k i b hb e.symm))
 ·obtain⟨h1,h2,h3⟩:=inv.outer
  cases hd:o.dst with
  | none=>exact⟨h1,h2,h3⟩
  | some d=>
   refine⟨h1,by simp[Act.put,h2],λ t ht=>?_⟩
   have hmem:d ∈ dstsOf (ops.take n):=List.mem_filterMap.2 ⟨o,List.mem_of_getElem? (i:=i) (by rw[List.getElem?_take,if_pos hin];exact ho'),hd⟩
   rw[eval_put_ne (by rintro rfl;simp at ht;exact ht hmem)];exact h3 t ht
 ·intro j oj hoj hl
  by_cases hij:j=i
  ·subst hij
   have:oj=o:=Option.some.inj (hoj.symm.trans ho')
   subst this
   unfold slotOf
   unfold valOf at hv
   cases hd:oj.dst with
   | none=>simpa [hd] using hv
   | some d=>
    simp only[hd]at hv
    have hmem:d ∈ dstsOf ops:=List.mem_filterMap.2 ⟨oj,List.mem_of_getElem? ho',hd⟩
    simp only
    rw[eval_put_same (by rw[inv.outer.2.1];exact hdl d hmem)];exact hv
  ·rw[getD_set_ne true (Ne.symm hij)]at hl
   have h1:=hmono j i _ w w' hij he (inv.done j oj hoj hl)
   unfold slotOf at h1 ⊢
   cases hdj:oj.dst with
   | none=>first | exact h1 | simpa [hdj] using h1
   | some d=>
    try simp only[hdj]at h1 ⊢
    cases hdo:o.dst with
    | none=>exact h1
    | some d'=>
     have hne:d≠d':=by
      rintro rfl
      exact dst_two hnd (Ne.symm hij) ho' hoj hdo hdj
     rw[eval_put_ne hne];exact h1
 ·by_cases h1:i1=i
  ·subst h1
   have e:oi=o:=Option.some.inj (hoi.symm.trans ho')
   subst e
   rw[slotv_same hB inv.outer.2.1 ho',slot_other hB hne ho' hoj]
   exact(hpr j1 oj hoj (by rwa [getD_set_ne true hne]at l2) (Ne.symm hne)).1
  ·by_cases h2:j1=i
   ·subst h2
    have e:oj=o:=Option.some.inj (hoj.symm.trans ho')
    subst e
    rw[slotv_same hB inv.outer.2.1 ho',slot_other hB (Ne.symm hne) ho' hoi]
    exact(hpr i1 oi hoi (by rwa [getD_set_ne true (Ne.symm hne)]at l1) hne).2
   ·rw[slot_other hB (Ne.symm h1) ho' hoi,slot_other hB (Ne.symm h2) ho' hoj]
    exact hmonoP i1 j1 i _ _ w w' (Ne.symm h1) (Ne.symm h2) he (inv.pair i1 j1 oi oj hoi hoj (by rwa [getD_set_ne true (Ne.symm h1)]at l1) (by rwa [getD_set_ne true (Ne.symm h2)]at l2) hne)
theorem wpAnyV_head{n g:Nat}(hB:regOk ops a0.tmps.size=true)(hVO:∀i j b,VO i=some b→VO j=some b→i=j)
  (hmono:∀i j v w w',i≠j→EsV VO X j w w'→Φ i v w→Φ i v w') (hI:∀j w w',EsV VO X j w w'→I w→I w') (hmonoP:∀i j k vi vj w w',k≠i→k≠j→EsV VO X k w w'→PR i j vi vj w→PR i j vi vj w') (hX:∀j w,X j w w) (hnN:n≤ops.length)
  (hstep:∀(i:Nat) o,i<n→ops[i]?=some o→StepAtV P ops a0 w0 VO X I PR Φ Q n i o)
  (hlate:∀listed,HeadInv .any ops.toArray n listed→(∃i,i<n∧listed.getD i true=false)→Region.ready .any ops.toArray listed≠[]∧∀t ∈ Region.ready .any ops.toArray listed,t<n)
  (hend:∀listed a w,RInvV ops a0 w0 VO I PR Φ n listed a w→(∀i,i<n→listed.getD i true=true)→wpAny P .any ops.toArray Q g listed a w):
  ∀(fuel:Nat) (listed:Array Bool) (a:Act) (w:World),((List.range n).filter (λ i=>!listed.getD i true)).length=fuel→RInvV ops a0 w0 VO I PR Φ n listed a w→
   wpAny P .any ops.toArray Q (fuel+g) listed a w:=by
 intro fuel
 induction fuel with
 | zero=>
  intro listed a w hf inv
  rw[Nat.zero_add]
  refine hend listed a w inv λ i hi=>?_
  cases h:listed.getD i true with
  | true=>rfl
  | false=>
   have:i ∈ (List.range n).filter (λ i=>!listed.getD i true):=List.mem_filter.2 ⟨List.mem_range.2 hi,by rw[h];rfl⟩
   rw[List.eq_nil_of_length_eq_zero hf]at this;cases this
 | succ fuel ih=>
  intro listed a w hf inv
  rw[show fuel+1+g=(fuel+g)+1 by omega]
  have hex:∃i,i<n∧listed.getD i true=false:=by
   cases hl:(List.range n).filter (λ i=>!listed.getD i true)with
   | nil=>rw[hl]at hf;cases hf
   | cons x L=>
    have:x ∈ (List.range n).filter (λ i=>!listed.getD i true):=by rw[hl];exact List.mem_cons_self ..
    obtain⟨h1,h2⟩:=List.mem_filter.1 this
    exact⟨x,List.mem_range.1 h1,by simpa using h2⟩
  obtain⟨hne,hlt⟩:=hlate listed inv.head hex
  refine⟨λ hr=>absurd hr hne,λ i hi=>?_⟩
  have hin:=hlt i hi
  obtain⟨hun,o,ho,hall⟩:=mem_ready.1 hi
  have ho':ops[i]?=some o:=by simpa using ho
  have hls:listed.size=ops.length:=by rw[inv.head.size];simp
  have hdep:Deps ops Φ a w o.after.toList:=deps_of λ e he hb oj hoj=>by
   have h1:=hall e (by simpa using he) hb
   refine inv.done e.on oj hoj ?_
   have h2:e.on<listed.size:=by
    rcases Nat.lt_or_ge e.on listed.size with h | h
    ·exact h
    ·simp[Array.getElem?_eq_none h]at h1
   simp[h2]at h1 ⊢;exact h1
  have hst:=hstep i o hin ho' (λ j=>listed.getD j true=true) a w (λ j oj hoj hl=>inv.done j oj hoj hl)
   ⟨inv.ext,inv.inv,λ j hj=>inv.ext0 j (by simpa using hj),λ j oj hoj e he hb hne hD=>(by
    have hjl:j<listed.size:=by rw[hls];exact(List.getElem?_eq_some_iff.1 hoj).1
    have h1:=inv.head.closed j oj (by simpa using hoj) (by simp[hjl]at hD ⊢;exact hD) e he hb
    rcases Nat.lt_or_ge e.on listed.size with h | h
    ·simp[h]at h1 hne;rw[h1]at hne;cases hne
    ·simp[Array.getElem?_eq_none h]at h1),(by rw[hun];exact Bool.false_ne_true)⟩ inv.outer hdep
  have next:∀v w',EsV VO X i w w'→Φ i (valOf o v) w'→PairAt ops PR (λ j=>listed.getD j true=true) a i (valOf o v) w'→wpAny P .any ops.toArray Q (fuel+g) (listed.setIfInBounds i true) (a.put o.dst v) w':=by
   intro v w' he hv hpr
   refine ih _ _ _ ?_ (inv.next hB hVO hmono hI hmonoP hi hin ho' he hv hpr)
   have:=head_count (listed:=listed) (i:=i) (by omega) hun _ List.nodup_range (List.mem_range.2 hin)
   omega
  unfold wpOp
  rw[ho]
  dsimp only
  by_cases hw:Region.wanted o (yielded ops.toArray a.tmps)=true
  ·rw[if_pos hw]at hst ⊢
   left
   refine Oper.wp_mono (λ a' w' h=>?_) hst
   obtain⟨v,rfl,he,hv,hpr⟩:=h
   exact next v w' he hv hpr
  ·rw[if_neg hw]at hst ⊢
   have e:valOf o undef=undef:=by unfold valOf;cases o.dst <;> rfl
   exact next undef w (esV_refl hX w) (by rw[e];exact hst.1) (λ j oj _ _ _=>⟨(hst.2 j _ _ w).1,(hst.2 j _ _ w).2⟩)
end
section
variable {P : Program} {Q : Exit → Act → World → Prop} {a : Act} {w : World} {l : List Oper} {VO : Nat → Option Nat} {X : Nat → World → World → Prop} {I : World → Prop} {PR : Nat → Nat → Value → Value → World → Prop} {Φ : Nat → Value → World → Prop}
theorem rinvV_start{n:Nat}(hI0:I w.drew)(hn:n≤l.length):RInvV l a w.drew VO I PR Φ n (Array.replicate l.length false) a w.drew:=
 ⟨⟨by simp,λ j oj _ hl=>(by rw[getD_replicate_false]at hl;cases hl),λ t _ ht=>getD_in (by simpa using ht) (getD_replicate_false _ _)⟩,ExtS.refl _ _,hI0,λ _ _ _ _ _=>rfl,⟨rfl,rfl,λ _ _=>rfl⟩,
  λ i o ho hl=>(by
   have hi:=(List.getElem?_eq_some_iff.1 ho).1
   rw[getD_in (by simpa using hi) (getD_replicate_false _ _)]at hl;cases hl),λ i1 _ oi _ hoi _ l1 _ _=>(by
   have hi:=(List.getElem?_eq_some_iff.1 hoi).1
   rw[getD_in (by simpa using hi) (getD_replicate_false _ _)]at l1;cases l1)⟩
theorem wp_region_tailV{id:Nat}(n:Nat)(VO:Nat→Option Nat)(hVO:∀i j b,VO i=some b→VO j=some b→i=j)(X:Nat→World→World→Prop)(I:World→Prop)(PR:Nat→Nat→Value→Value→World→Prop)(hX:∀j w,X j w w)(hI0:I w.drew)(Φ:Nat→Value→World→Prop)(hm:P.follows .mixedOrders=true)(hB:regOk l a.tmps.size=true)(hT:regTail l n=true)
  (hmono:∀i j v w1 w',i≠j→EsV VO X j w1 w'→Φ i v w1→Φ i v w') (hI:∀j w w',EsV VO X j w w'→I w→I w') (hmonoP:∀i j k vi vj w w',k≠i→k≠j→EsV VO X k w w'→PR i j vi vj w→PR i j vi vj w')
  (hstep:∀(i:Nat) o,i<n→l[i]?=some o→StepAtV P l a w.drew VO X I PR Φ Q n i o)
  (hend:∀a' w',ExtS VO w.drew w'→I w'→Outer l a n a'→AllDone l Φ a' w' 0 n→(∀i j oi oj,l[i]?=some oi→l[j]?=some oj→i<n→j<n→i≠j→PR i j (slotOf oi a') (slotOf oj a') w')→wpList P l.toArray Q (l.drop n) a' w'):(Code.region id l.toArray true).wp P Q a w:=by
 unfold regTail at hT
 simp only[Bool.and_eq_true,decide_eq_true_eq]at hT
 obtain⟨⟨⟨hn,hs⟩,hc⟩,hseq⟩:=hT
 refine wp_region_any hm ?_
 have H:=wpAnyV_head (P:=P) (ops:=l) (a0:=a) (w0:=w.drew) (VO:=VO) (X:=X) (I:=I) (PR:=PR) (Φ:=Φ) (Q:=Q) (n:=n) (g:=l.length - n) hB hVO hmono hI hmonoP hX (by omega) hstep
  (λ listed inv ⟨i,hi,hun⟩=>⟨λ hr=>(by
    have:=all_of_ready_nil (a0:=a) hB (by rw[inv.size];simp) hr i (by omega)
    rw[hun]at this;cases this),λ t ht=>(by
    rcases Nat.lt_or_ge t n with h | h
    ·exact h
    ·exact absurd ht (tail_waits hs hc (by simpa using hn) inv (n - i) i rfl hi hun t h))⟩)
  (λ listed a' w' inv hall=>(by
    have e:=headDone_of (n:=n) (N:=l.length) (by rw[inv.head.size];simp) hall (λ i h1 h2=>inv.head.tail i h1 (by simpa using h2)) (by omega);have h:=wpAny_of_seq (P:=P) (md:=.any) (Q':=Q) (ops:=l.toArray) (l.drop n) n listed a' w' (λ j=>by simp[List.getElem?_drop]) (by rw[List.length_drop,e];exact hseq)
     (hend a' w' inv.ext inv.inv inv.outer (allDone_of _ _ λ j _ h2 o ho=>inv.done j o ho (hall j (by omega))) (λ i j oi oj hoi hoj h1 h2 hne=>inv.pair i j oi oj hoi hoj (hall i h1) (hall j h2) hne))
    rwa [List.length_drop]at h))
  n (Array.replicate l.length false) a w.drew (start_count _ _ (by omega)) (rinvV_start hI0 (by omega))
 rw[show n+(l.length - n)=l.length by omega]at H
 simpa using H
end
def MonoAllV(VO:Nat→Option Nat)(X:Nat→World→World→Prop):Nat→List (Value→World→Prop)→Prop
 | _,[]=>True
 | i,φ :: r=>(∀j,j≠i→∀v w1 w',EsV VO X j w1 w'→φ v w1→φ v w')∧MonoAllV VO X (i+1) r
theorem monoV_at{VO:Nat→Option Nat}{X:Nat→World→World→Prop}:∀{L:List (Value→World→Prop)} {k:Nat},MonoAllV VO X k L→∀i j v w1 w',j≠k+i→EsV VO X j w1 w'→L.getD i (λ _ _=>True) v w1→L.getD i (λ _ _=>True) v w'
 | [],_,_,_,_,_,_,_,_,_,_=>by simp
 | φ :: r,k,h,0,j,v,w1,w',hj,he,hp=>h.1 j hj v w1 w' he hp
 | φ :: r,k,h,i+1,j,v,w1,w',hj,he,hp=>monoV_at (L:=r) h.2 i j v w1 w' (by omega) he hp
theorem monoV_of{VO:Nat→Option Nat}{X:Nat→World→World→Prop}{L:List (Value→World→Prop)}(h:MonoAllV VO X 0 L):∀i j v w1 w',i≠j→EsV VO X j w1 w'→phis L i v w1→phis L i v w':=λ i j v w1 w' hij he hp=>
 monoV_at h i j v w1 w' (by omega) he hp
theorem monoV_eq{VO:Nat→Option Nat}{X:Nat→World→World→Prop}{i:Nat}{f:Value→Prop}:∀j,j≠i→∀v w1 w',EsV VO X j w1 w'→(λ v (_:World)=>f v) v w1→(λ v (_:World)=>f v) v w':=λ _ _ _ _ _ _ h=>h
def StepsFromV(P:Program)(ops:List Oper)(a0:Act)(w0:World)(VO:Nat→Option Nat)(X:Nat→World→World→Prop)(I:World→Prop)(PR:Nat→Nat→Value→Value→World→Prop)(Φ:Nat→Value→World→Prop)(Q:Exit→Act→World→Prop)(hd:Nat):Nat→Nat→List Oper→Prop
 | _,0,_=>True
 | _,_+1,[]=>True
 | i,n+1,o :: r=>StepAtV P ops a0 w0 VO X I PR Φ Q hd i o∧StepsFromV P ops a0 w0 VO X I PR Φ Q hd (i+1) n r
theorem stepsV_from{P:Program}{ops:List Oper}{a0:Act}{w0:World}{VO:Nat→Option Nat}{X:Nat→World→World→Prop}{I:World→Prop}{PR:Nat→Nat→Value→Value→World→Prop}{Φ:Nat→Value→World→Prop}{Q:Exit→Act→World→Prop}{hd:Nat}:
  ∀(n k:Nat) (r:List Oper),StepsFromV P ops a0 w0 VO X I PR Φ Q hd k n r→∀(i:Nat) o,i<n→r[i]?=some o→StepAtV P ops a0 w0 VO X I PR Φ Q hd (k+i) o
 | 0,_,_,_,_,_,h,_=>by omega
 | _+1,_,[],_,_,_,_,h=>by simp at h
 | n+1,k,x :: r,h,0,o,_,ho=>by simp at ho;subst ho;exact h.1
 | n+1,k,x :: r,h,i+1,o,hi,ho=>by
  have:=stepsV_from n (k+1) r h.2 i o (by omega) (by simpa using ho)
  rwa [Nat.add_assoc,Nat.add_comm 1 i]at this
theorem stepsV_of{P:Program}{ops:List Oper}{a0:Act}{w0:World}{VO:Nat→Option Nat}{X:Nat→World→World→Prop}{I:World→Prop}{PR:Nat→Nat→Value→Value→World→Prop}{Φ:Nat→Value→World→Prop}{Q:Exit→Act→World→Prop}{hd:Nat}(n:Nat)
  (h:StepsFromV P ops a0 w0 VO X I PR Φ Q hd 0 n ops):∀(i:Nat) o,i<n→ops[i]?=some o→StepAtV P ops a0 w0 VO X I PR Φ Q hd i o:=λ i o hi ho=>by
 have:=stepsV_from n 0 ops h i o hi ho
 rwa [Nat.zero_add]at this
section
variable {P : Program} {ops : List Oper} {a0 : Act} {w0 : World} {VO : Nat → Option Nat} {X : Nat → World → World → Prop} {I : World → Prop} {PR : Nat → Nat → Value → Value → World → Prop} {Φ : Nat → Value → World → Prop} {Q : Exit → Act → World → Prop} {hd : Nat} {i : Nat} {o : Oper}
theorem stepV_wp(h:∀(D:Nat→Prop) a w1,(∀j oj,ops[j]?=some oj→D j→Φ j (slotOf oj a) w1)→Here VO I ops w0 w1 D i→Outer ops a0 hd a→Deps ops Φ a w1 o.after.toList→
  Region.wanted o (yielded ops.toArray a.tmps)=true∧o.wp P a w1 (λ a' w'=>∃v,a'=a.put o.dst v∧EsV VO X i w1 w'∧Φ i (valOf o v) w'∧PairAt ops PR D a i (valOf o v) w') Q):StepAtV P ops a0 w0 VO X I PR Φ Q hd i o:=λ D a w1 hP hE hO hD=>by
 obtain⟨h1,h2⟩:=h D a w1 hP hE hO hD
 rw[if_pos h1];exact h2
theorem stepV_val{v:Value}(hX:∀j w,X j w w)(hp:∀j vi vj w,PR i j vi vj w∧PR j i vi vj w)(h:∀(D:Nat→Prop) a w1,Here VO I ops w0 w1 D i→Outer ops a0 hd a→Deps ops Φ a w1 o.after.toList→
  Region.wanted o (yielded ops.toArray a.tmps)=true∧(execOp a.eval o).run P w1=.ok (.value v) w1) (hφ:∀w1,Φ i (valOf o v) w1):StepAtV P ops a0 w0 VO X I PR Φ Q hd i o:=λ D a w1 hP hE hO hD=>by
 obtain⟨h1,h2⟩:=h D a w1 hE hO hD
 rw[if_pos h1]
 unfold Oper.wp
 rw[h2]
 exact⟨v,rfl,esV_refl hX w1,hφ w1,λ j oj _ _ _=>⟨(hp j _ _ w1).1,(hp j _ _ w1).2⟩⟩
end
end Go.Proofs.YtpobhbdomldecaaGreatDoor
namespace Go.Proofs.YtpobhbdomldecaaGreatDoor
set_option linter.unusedSimpArgs false
set_option linter.unusedVariables false
open Go.RowKit
def urowsOf(sort:Nat):List URow:=match sort with | 1=>binsL | 2=>strsL | 3=>listsL | 4=>pairsL | _=>numsL
def takeOf(sort:Nat)(s:ByteArray)(a:Nat)(most:Int):Except Int (Int × ByteArray × Nat):=
 match headOf (s.extract a s.size) (urowsOf sort)with
 | .error k=>.error k
 | .ok (n,rest)=>
  if sort≠0∧most<n then .error 3
  else if sort=1 ∨ sort=2 then(if(rest.size:Int)<n then .error 4 else .ok (n,rest.extract 0 n.toNat,s.size - (rest.size - n.toNat)))
  else .ok (n,⟨#[]⟩,s.size - rest.size)
theorem textOf_is{s:ByteArray}{a:Nat}{most:Int}{sort:Nat}(h:sort=1 ∨ sort=2):
  (∃k,textOf s a most (urowsOf sort)=.error k∧takeOf sort s a most=.error k) ∨
  (∃(n:Nat) (t:ByteArray) (a':Nat),textOf s a most (urowsOf sort)=.ok (.string t,a')∧takeOf sort s a most=.ok ((n:Int),t,a')∧t.size=n∧(n:Int)≤most):=by
 have h0:sort≠0:=by omega
 unfold textOf takeOf
 cases hh:headOf (s.extract a s.size) (urowsOf sort)with
 | error k=>exact .inl ⟨k,rfl,rfl⟩
 | ok x=>
  obtain⟨n,rest⟩:=x
  have hb:=head_bd (by rcases h with rfl | rfl;exact binsL_ok;exact strsL_ok) hh
  by_cases h1:most<n
  ·exact .inl ⟨3,by simp only[if_pos h1],by simp only[if_pos (And.intro h0 h1)]⟩
  ·by_cases h2:(rest.size:Int)<n
   ·exact .inl ⟨4,by simp only[if_neg h1,if_pos h2],by simp only[if_neg (λ e:sort≠0∧most<n=>h1 e.2),if_pos h,if_pos h2]⟩
   ·refine .inr ⟨n.toNat,rest.extract 0 n.toNat,s.size - (rest.size - n.toNat),by simp only[if_neg h1,if_neg h2],?_,by rw[ByteArray.size_extract];omega,by omega⟩
    simp only[if_neg (λ e:sort≠0∧most<n=>h1 e.2),if_pos h,if_neg h2]
    rw[show((n.toNat:Nat):Int)=n by omega]
theorem countOf_is{s:ByteArray}{a:Nat}{most:Int}{sort:Nat}(h:sort=3 ∨ sort=4):
  (∃k,countOf s a most (urowsOf sort)=.error k∧takeOf sort s a most=.error k) ∨
  (∃(n:Nat) (a':Nat),countOf s a most (urowsOf sort)=.ok (.int .i64 n,a')∧takeOf sort s a most=.ok ((n:Int),⟨#[]⟩,a')∧(n:Int)≤most):=by
 have h0:sort≠0:=by omega
 have h3:¬(sort=1 ∨ sort=2):=by omega
 unfold countOf takeOf
 cases hh:headOf (s.extract a s.size) (urowsOf sort)with
 | error k=>exact .inl ⟨k,rfl,rfl⟩
 | ok x=>
  obtain⟨n,rest⟩:=x
  have hb:=head_bd (by rcases h with rfl | rfl;exact listsL_ok;exact pairsL_ok) hh
  by_cases h1:most<n
  ·exact .inl ⟨3,by simp only[if_pos h1],by simp only[if_pos (And.intro h0 h1)]⟩
  ·refine .inr ⟨n.toNat,s.size - rest.size,?_,?_,by omega⟩
   ·simp only[if_neg h1];rw[show((n.toNat:Nat):Int)=n by omega]
   ·simp only[if_neg (λ e:sort≠0∧most<n=>h1 e.2),if_neg h3];rw[show((n.toNat:Nat):Int)=n by omega]
theorem numOf_is{s:ByteArray}{a:Nat}{most:Int}:
  (∃k,numOf s a numsL=.error k∧takeOf 0 s a most=.error k) ∨
  (∃(n:Int) (a':Nat),numOf s a numsL=.ok (.int .u64 n,a')∧takeOf 0 s a most=.ok (n,⟨#[]⟩,a')):=by
 unfold numOf takeOf
 have e:urowsOf 0=numsL:=rfl
 rw[e]
 cases hh:headOf (s.extract a s.size) numsL with
 | error k=>exact .inl ⟨k,rfl,rfl⟩
 | ok x=>
  obtain⟨n,rest⟩:=x
  exact .inr ⟨n,s.size - rest.size,rfl,by simp⟩
theorem takeOf_le{sort:Nat}{s:ByteArray}{a:Nat}{most:Int}{x:Int × ByteArray × Nat}(h:takeOf sort s a most=.ok x):x.2.2≤s.size:=by
 unfold takeOf at h
 cases hh:headOf (s.extract a s.size) (urowsOf sort)with
 | error k2=>rw[hh]at h;cases h
 | ok y=>
  obtain⟨n,rest⟩:=y
  rw[hh]at h
  simp only at h
  split at h
  ·cases h
  ·split at h
   ·split at h
    ·cases h
    ·cases h;exact Nat.sub_le _ _
   ·cases h;exact Nat.sub_le _ _
theorem New_any(w:World)(s:ByteArray)(m:Int):Calls Tryz.prog 182 #[.string s,.int .i64 m] w λ e w'=>e=.returned (.pointer (some ⟨w.heap.size,0,none⟩))∧w'=w.alloc (.cells #[.string s,.int .i64 0,.int .i64 (max m 0)] 282):=by
 by_cases h:m<0
 ·rw[show max m 0=0 by omega]
  go_enter Tryz.func182,Tryz.ntmps182
  go_wp2
  go_ret
  exact⟨rfl,by first | rfl | rw[show max m 0=0 by omega]⟩
 ·rw[show max m 0=m by omega]
  go_enter Tryz.func182,Tryz.ntmps182
  go_wp2
  go_ret
  exact⟨rfl,by first | rfl | rw[show max m 0=m by omega]⟩
end Go.Proofs.YtpobhbdomldecaaGreatDoor
namespace Go.Proofs.YtpobhbdomldecaaGreatDoor
open Go.RowKit
set_option linter.unusedSimpArgs false
set_option linter.unusedVariables false
structure RevD where
 pos:Int
 L:Int
 signed:Bool
 idx:Int
 ws:List ByteArray
 ps:List ByteArray
 root:ByteArray
 wt:Int
 first:Int
 life:Int
 keys:Int
inductive DV where
 | num (n:Int)
 | flag (q:Bool)
 | str (s:ByteArray)
 | strs (l:List ByteArray)
 | nums (l:List Int)
 | revs (l:List RevD)
def zeroD:DV→Bool
 | .num n=>n == 0
 | .flag q=>!q
 | .str s=>s.size == 0
 | .strs l=>l.length == 0
 | .nums l=>l.length == 0
 | .revs l=>l.length == 0
abbrev Rcd:=Nat→DV
def upd(x:Rcd)(o:Nat)(d:DV):Rcd:=λ i=>if i=o then d else x i
theorem upd_at(x:Rcd)(o:Nat)(d:DV):upd x o d o=d:=if_pos rfl
theorem upd_ne{x:Rcd}{o i:Nat}{d:DV}(h:i≠o):upd x o d i=x i:=if_neg h
abbrev Flt:=Int × Nat
def tkR(sort:Nat)(s:ByteArray)(a:Nat):Except Flt (Int × ByteArray × Nat):=
 match takeOf sort s a 10240 with
 | .error k=>.error (k,a)
 | .ok x=>.ok x
def rnum(s:ByteArray)(a:Nat):Except Flt (Int × Nat):=
 match tkR 0 s a with
 | .error f=>.error f
 | .ok x=>.ok (x.1,x.2.2)
def rdig(s:ByteArray)(a:Nat):Except Flt (ByteArray × Nat):=
 match tkR 1 s a with
 | .error f=>.error f
 | .ok x=>if x.2.1.size=32 then .ok (x.2.1,x.2.2)else .error (5,0)
def rlist(s:ByteArray)(most:Nat)(a:Nat):Except Flt (Nat × Nat):=
 match tkR 3 s a with
 | .error f=>.error f
 | .ok x=>if x.1≤most then .ok (x.1.toNat,x.2.2)else .error (3,0)
def rmany{α:Type}(rd:Nat→Except Flt (α × Nat)):Nat→Nat→List α→Except Flt (List α × Nat)
 | 0,a,l=>.ok (l,a)
 | n+1,a,l=>
  match rd a with
  | .error f=>.error f
  | .ok x=>rmany rd n x.2 (l++[x.1])
structure GSpec where
 key:ByteArray
 must:Bool
 offs:List Nat
 empty:Rcd→Bool
 read:Rcd→Nat→Except Flt (Rcd × Nat)
def GSpec.zero:GSpec:=⟨ByteArray.empty,false,[],λ _=>true,λ x a=>.ok (x,a)⟩
def gth(l:List GSpec)(i:Nat):GSpec:=l.getD i GSpec.zero
theorem gth_eq(l:List GSpec)(i:Nat)(h:i<l.length):gth l i=l[i]:=by unfold gth;rw[List.getD_eq_getElem?_getD,List.getElem?_eq_getElem h];rfl
def keyIdx(fs:List GSpec)(fr:Nat)(k:ByteArray):Option Nat:=(List.range (fs.length - fr)).find? (λ i=>(gth fs (fr+i)).key.toList == k.toList)
theorem keyIdx_none{fs:List GSpec}{fr:Nat}{k:ByteArray}(h:∀i,i<fs.length - fr→((gth fs (fr+i)).key.toList == k.toList)=false):keyIdx fs fr k=none:=by
 unfold keyIdx
 rw[List.find?_eq_none]
 intro i hi
 rw[h i (List.mem_range.1 hi)];decide
theorem find_range{p:Nat→Bool}{n j:Nat}(hj:j<n)(hp:p j=true)(hn:∀i,i<j→p i=false):(List.range n).find? p=some j:=by
 rw[List.find?_range_eq_some]
 refine⟨hp,by simpa using hj,λ i hi=>by rw[hn i hi];rfl⟩
theorem keyIdx_some{fs:List GSpec}{fr j:Nat}{k:ByteArray}(hj:j<fs.length - fr)(hp:((gth fs (fr+j)).key.toList == k.toList)=true)(hn:∀i,i<j→((gth fs (fr+i)).key.toList == k.toList)=false):keyIdx fs fr k=some j:=
 find_range hj hp hn
def missing(fs:List GSpec)(seen:List Nat):Bool:=(List.range fs.length).any λ i=>(gth fs i).must && !seen.contains i
def objLoop(s:ByteArray)(fs:List GSpec):Nat→Nat→Rcd→List Nat→Nat→Except Flt (Rcd × List Nat × Nat)
 | 0,_,x,seen,a=>.ok (x,seen,a)
 | n+1,fr,x,seen,a=>
  match tkR 2 s a with
  | .error f=>.error f
  | .ok k=>
   match keyIdx fs fr k.2.1 with
   | none=>.error (5,0)
   | some j=>
    match (gth fs (fr+j)).read x k.2.2 with
    | .error f=>.error f
    | .ok y=>if(gth fs (fr+j)).empty y.1 then .error (5,0)else objLoop s fs n (fr+j+1) y.1 ((fr+j) :: seen) y.2
def objR(s:ByteArray)(fs:List GSpec)(x:Rcd)(a:Nat):Except Flt (Rcd × Nat):=
 match tkR 4 s a with
 | .error f=>.error f
 | .ok n=>
  match objLoop s fs n.1.toNat 0 x [] n.2.2 with
  | .error f=>.error f
  | .ok y=>if missing fs y.2.1 then .error (5,0)else .ok (y.1,y.2.2)
def readR(s:ByteArray)(fs:List GSpec)(x:Rcd):Except Flt Rcd:=
 match objR s fs x 0 with
 | .error f=>.error f
 | .ok y=>if y.2<s.size then .error (5,y.2)else .ok y.1
def gnum(s key:ByteArray)(o:Nat):GSpec:=⟨key,false,[o],λ x=>zeroD (x o),λ x a=>match rnum s a with | .error f=>.error f | .ok y=>.ok (upd x o (.num y.1),y.2)⟩
def gflag(s key:ByteArray)(o:Nat):GSpec:=⟨key,false,[o],λ x=>zeroD (x o),λ x a=>match rnum s a with | .error f=>.error f | .ok y=>.ok (upd x o (.flag (y.1 == 1)),y.2)⟩
def gdig(s key:ByteArray)(o:Nat):GSpec:=⟨key,true,[o],λ _=>false,λ x a=>match rdig s a with | .error f=>.error f | .ok y=>.ok (upd x o (.str y.1),y.2)⟩
def gmany{α:Type}(s key:ByteArray)(o most:Nat)(toD:List α→DV)(rd:Nat→Except Flt (α × Nat)):GSpec:=
 ⟨key,false,[o],λ x=>zeroD (x o),λ x a=>match rlist s most a with | .error f=>.error f | .ok k=>match rmany rd k.1 k.2 []with | .error f=>.error f | .ok y=>.ok (upd x o (toD y.1),y.2)⟩
def gdigs(s key:ByteArray)(o most:Nat):GSpec:=gmany s key o most .strs (rdig s)
def gobj(s key:ByteArray)(fs:List GSpec):GSpec:=⟨key,fs.any λ g=>g.must,fs.flatMap λ g=>g.offs,λ x=>fs.all λ g=>g.empty x,objR s fs⟩
def partGs(s:ByteArray)(o:Nat):List GSpec:=[gnum s ⟨#[102]⟩ (o+2),gnum s ⟨#[107]⟩ (o+4),gnum s ⟨#[108]⟩ (o+3),gdig s ⟨#[114]⟩ o,gnum s ⟨#[119]⟩ (o+1)]
def sigGs(s:ByteArray)(o:Nat):List GSpec:=[gnum s ⟨#[105]⟩ o,gdigs s ⟨#[112]⟩ (o+2) 16,gdigs s ⟨#[118]⟩ (o+1) 67]
def slotGs(s:ByteArray)(o:Nat):List GSpec:=[gobj s ⟨#[103]⟩ (sigGs s (o+2)),gnum s ⟨#[108]⟩ o,gflag s ⟨#[115]⟩ (o+1)]
def DV.n:DV→Int | .num n=>n | _=>0
def DV.q:DV→Bool | .flag q=>q | _=>false
def DV.s:DV→ByteArray | .str s=>s | _=>ByteArray.empty
def DV.l:DV→List ByteArray | .strs l=>l | _=>[]
def DV.ns:DV→List Int | .nums l=>l | _=>[]
def DV.rs:DV→List RevD | .revs l=>l | _=>[]
def revC(r:RevD):Rcd:=λ i=>match i with
 | 0=>.num r.pos | 1=>.num r.L | 2=>.flag r.signed | 3=>.num r.idx | 4=>.strs r.ws | 5=>.strs r.ps | 6=>.str r.root | 7=>.num r.wt | 8=>.num r.first | 9=>.num r.life | _=>.num r.keys
def part0:Rcd:=λ i=>match i with | 0=>.str ⟨#[]⟩ | _=>.num 0
def GSpec.Frames(g:GSpec):Prop:=∀x a y,g.read x a=.ok y→∀i,i ∉ g.offs→y.1 i=x i
theorem gnum_frames(s key:ByteArray)(o:Nat):(gnum s key o).Frames:=λ x a y h i hi=>by
 simp only[gnum]at h hi
 split at h
 ·cases h
 ·cases h;exact upd_ne (by simpa using hi)
theorem gdig_frames(s key:ByteArray)(o:Nat):(gdig s key o).Frames:=λ x a y h i hi=>by
 simp only[gdig]at h hi
 split at h
 ·cases h
 ·cases h;exact upd_ne (by simpa using hi)
theorem keyIdx_lt{fs:List GSpec}{fr j:Nat}{k:ByteArray}(h:keyIdx fs fr k=some j):fr+j<fs.length:=by
 unfold keyIdx at h
 have:=List.mem_of_find?_eq_some h
 rw[List.mem_range]at this
 omega
def kindD:DV→Nat
 | .num _=>0 | .flag _=>1 | .str _=>2 | .strs _=>3 | .nums _=>4 | .revs _=>5
def Kd(x0 x:Rcd):Prop:=∀i,kindD (x i)=kindD (x0 i)
def GSpec.Kinds(x0:Rcd)(g:GSpec):Prop:=∀x a y,g.read x a=.ok y→Kd x0 x→Kd x0 y.1
theorem Kd.upd{x0 x:Rcd}(h:Kd x0 x){o:Nat}{d:DV}(hd:kindD d=kindD (x0 o)):Kd x0 (upd x o d):=λ i=>by
 by_cases e:i=o
 ·subst e;rw[upd_at];exact hd
 ·rw[upd_ne e];exact h i
theorem Kd.num{x0 x:Rcd}(h:Kd x0 x){o:Nat}(h0:kindD (x0 o)=0):∃n,x o=.num n:=by
 have:=(h o).trans h0
 cases hx:x o <;> rw[hx]at this <;> first | exact⟨_,rfl⟩ | cases this
theorem gnum_kinds{x0:Rcd}(s key:ByteArray){o:Nat}(h0:kindD (x0 o)=0):(gnum s key o).Kinds x0:=λ x a y h hk=>by
 simp only[gnum]at h
 split at h
 ·cases h
 ·cases h;exact hk.upd h0.symm
theorem gdig_kinds{x0:Rcd}(s key:ByteArray){o:Nat}(h0:kindD (x0 o)=2):(gdig s key o).Kinds x0:=λ x a y h hk=>by
 simp only[gdig]at h
 split at h
 ·cases h
 ·cases h;exact hk.upd h0.symm
theorem objLoop_kinds{x0:Rcd}{s:ByteArray}{fs:List GSpec}(hf:∀g ∈ fs,g.Kinds x0):∀(n fr:Nat) (x:Rcd) (seen:List Nat) (a:Nat) (y:Rcd × List Nat × Nat),objLoop s fs n fr x seen a=.ok y→Kd x0 x→Kd x0 y.1
 | 0,fr,x,seen,a,y,h,hk=>by simp only[objLoop]at h;cases h;exact hk
 | n+1,fr,x,seen,a,y,h,hk=>by
  simp only[objLoop]at h
  split at h
  ·cases h
  ·split at h
   ·cases h
   ·next j hj=>
    have hl:=keyIdx_lt hj;have hm:gth fs (fr+j) ∈ fs:=by rw[gth_eq fs _ hl];exact List.getElem_mem _
    split at h
    ·cases h
    ·next z hz=>
     split at h
     ·cases h
     ·exact objLoop_kinds hf n _ _ _ _ y h (hf _ hm _ _ _ hz hk)
theorem gobj_kinds{x0:Rcd}{s key:ByteArray}{fs:List GSpec}(hf:∀g ∈ fs,g.Kinds x0):(gobj s key fs).Kinds x0:=λ x a y h hk=>by
 simp only[gobj,objR]at h
 split at h
 ·cases h
 ·split at h
  ·cases h
  ·next z hz=>
   split at h
   ·cases h
   ·cases h;exact objLoop_kinds hf _ _ _ _ _ z hz hk
end Go.Proofs.YtpobhbdomldecaaGreatDoor

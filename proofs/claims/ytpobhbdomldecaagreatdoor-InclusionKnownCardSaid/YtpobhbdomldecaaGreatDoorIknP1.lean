/- Parts of the proof, one behind the other. -/
import Derived.Test.YtpobhbdomldecaaGreatDoorRows
import Derived.WalkKit
import Derived.WalkSpells
import Derived.WalkLawsBesides
import Derived.Lib.Hide
import Derived.Deep.Draws
import Derived.Shelf.Spec.BitsCarry
import Derived.Deep.QuietTactic
import Derived.BigQuiet
import Derived.StillTailTactics
import Derived.Deep.LoopGhost
import Derived.Deep.RegionWith
import Derived.Deep.DeepCutAuto
import Derived.Deep.AppendLies
import Derived.Laws.OwnMore
import Derived.Deep.CutBlock
import Derived.StillTail
import Derived.NoCompiler
import Derived.IntWalk
import Derived.WalkMore
import Derived.Lib.ConvBytes
import Derived.Lib.Strings
import Derived.Defers
import Derived.Recover
import Derived.LaidEql
import Derived.Stop.Asserts
import Derived.RowKitTokens
import Derived.Lib.AppendStr
namespace Go.Proofs.YtpobhbdomldecaaGreatDoor
set_option linter.unusedSimpArgs false
set_option linter.unusedVariables false
open Go.RowKit
def len{α:Type}(l:List α):Nat:=l.length
theorem len_eq{α:Type}(l:List α):len l=l.length:=rfl
theorem take_len{α:Type}(l:List α):l.take (len l)=l:=List.take_length
def nth(l:List Int)(i:Nat):Int:=l.getD i 0
theorem nth_eq(l:List Int)(i:Nat)(h:i<l.length):nth l i=l[i]:=by
 unfold nth;rw[List.getD_eq_getElem?_getD,List.getElem?_eq_getElem h];rfl
theorem lt_of_cell{w:World}{b o:Nat}{v:Value}(h:w.cell? ⟨b,o,none⟩=some v):b<w.heap.size:=by
 unfold World.cell? at h
 rcases Nat.lt_or_ge b w.heap.size with h' | h'
 ·exact h'
 ·simp[Array.getElem?_eq_none h']at h
theorem ret_bool{a b:Bool}(h:a=b):Ending.returned (.bool a)=.returned (.bool b):=by rw[h]
theorem ret_int{k:IntKind}{a b:Int}(h:a=b):Ending.returned (.int k a)=.returned (.int k b):=by rw[h]
theorem below_drewN{B:Nat}{a w:World}(h:Below B a w)(n:Nat):Below B a (w.drewN n):=⟨h.os,h.tape,h.output,h.size,h.block⟩
theorem block_cell{w:World}{b:Nat}{cs:Array Value}{t:TypeId}{fr:Nat × Nat}(h:w.heap[b]?=some (.cells cs t fr))(o:Nat):w.cell? ⟨b,o,none⟩=cs[o]?:=by
 unfold World.cell?;rw[h];rfl
theorem block_free{w:World}{b:Nat}{cs:Array Value}{t:TypeId}(h:w.heap[b]?=some (.cells cs t (0,0)))(o:Nat):w.frozen? ⟨b,o,none⟩=false:=by
 unfold World.frozen?;rw[h];simp
theorem block_alloc{w:World}{b:Nat}{x:Obj}(h:w.heap[b]?=some x)(o:Obj):(w.alloc o).heap[b]?=some x:=by
 rw[Below.heap_alloc _ _ _ (lt_of_block h)];exact h
theorem alloc_new_at{w:World}{n:Nat}(o:Obj)(h:w.heap.size=n):(w.alloc o).heap[n]?=some o:=by
 subst h;exact heap_alloc_new w o
theorem alloc_size{w:World}{n:Nat}(o:Obj)(h:w.heap.size=n):(w.alloc o).heap.size=n+1:=by simp;exact h
theorem block_setCell{w:World}{b o:Nat}{cs:Array Value}{t:TypeId}{fr:Nat × Nat}(h:w.heap[b]?=some (.cells cs t fr))(v:Value):
  (w.setCell ⟨b,o,none⟩ v).heap[b]?=some (.cells (cs.setIfInBounds o v) t fr):=by
 have hlt:=lt_of_block h;have h':w.heap[b]=.cells cs t fr:=by simpa [Array.getElem?_eq_getElem hlt] using h
 show(w.heap.modify b _)[b]?=_
 rw[Array.getElem?_eq_getElem (by simpa using hlt),Array.getElem_modify_self,h']
 rfl
theorem block_setCell_ne{w:World}{b:Nat}{x:Obj}(h:w.heap[b]?=some x){p:Addr}(hp:b≠p.block)(v:Value):(w.setCell p v).heap[b]?=some x:=by
 rw[Below.heap_setCell _ _ _ _ hp];exact h
theorem flat_get{α β:Type}(f:α→List β)(k:Nat)(hf:∀x,(f x).length=k):∀(l:List α) (i r:Nat) (hi:i<l.length),r<k→(l.flatMap f)[i * k+r]?=(f l[i])[r]?
 | x :: l,0,r,_,hr=>by
  simp only[List.flatMap_cons,Nat.zero_mul,Nat.zero_add,List.getElem_cons_zero]
  rw[List.getElem?_append_left (by rw[hf];exact hr)]
 | x :: l,i+1,r,hi,hr=>by
  simp only[List.flatMap_cons,List.getElem_cons_succ]
  rw[List.getElem?_append_right (by rw[hf,Nat.add_mul];omega),hf,show(i+1) * k+r - k=i * k+r by rw[Nat.add_mul];omega]
  exact flat_get f k hf l i r (by simpa using hi) hr
theorem flat_length{α β:Type}(f:α→List β)(k:Nat)(hf:∀x,(f x).length=k):∀(l:List α),(l.flatMap f).length=l.length * k
 | []=>by simp
 | x :: l=>by rw[List.flatMap_cons,List.length_append,hf,flat_length f k hf l,List.length_cons,Nat.add_mul];omega
def U64s(w:World)(a:Option Addr)(l:List Int):Prop:=
 ∀i,i<len l→∃b off,a=some ⟨b,off,none⟩∧w.cell? ⟨b,off+i,none⟩=some (.int .u64 (nth l i))
theorem U64s.nil(w:World)(a:Option Addr):U64s w a []:=λ i h=>by simp[len]at h
theorem U64s.below{w w':World}{a:Option Addr}{l:List Int}(h:U64s w a l)(hb:Below w.heap.size w w'):U64s w' a l:=λ i hi=>by
 obtain⟨b,off,rfl,hc⟩:=h i hi
 exact⟨b,off,rfl,by rw[hb.cell (p:=⟨b,off+i,none⟩) (lt_of_cell hc)];exact hc⟩
theorem bnext{w b c:World}(h:Below w.heap.size w b)(k:Below b.heap.size b c):Below w.heap.size w c:=h.trans (k.mono h.size)
theorem balloc{w b:World}(h:Below w.heap.size w b)(o:Obj):Below w.heap.size w (b.alloc o):=h.alloc h.size o
theorem bdrew{w b:World}(h:Below w.heap.size w b):Below w.heap.size w b.drew:=h.drew
theorem bdrewN{w b:World}(h:Below w.heap.size w b)(n:Nat):Below w.heap.size w (b.drewN n):=below_drewN h n
theorem bset{w b:World}(h:Below w.heap.size w b){p:Addr}(hp:w.heap.size≤p.block)(u:Value):Below w.heap.size w (b.setCell p u):=h.setCell hp u
end Go.Proofs.YtpobhbdomldecaaGreatDoor
namespace Go.Proofs.YtpobhbdomldecaaGreatDoor
set_option linter.unusedSimpArgs false
set_option linter.unusedVariables false
open Go.RowKit
theorem info_u64:(Tryz.prog.info? 23).map (λ i=>(i.zero,i.size,i.bytes))=some (some (.int .u64 0),1,8):=by kernel_rfl
theorem grownBy_below{w b c:World}{row:Option Nat}(h:Below w.heap.size w b)(hg:b.grownBy c row)(hr:∀k,row=some k→w.heap.size≤k):Below w.heap.size w c:=
 h.grown hg h.size hr
theorem below_grown{w w':World}(h:Below w.heap.size w w'):w.grownBy w' none:=⟨h.os,h.tape,h.output,h.size,λ i hi _=>h.block i hi⟩
theorem own_below{w w':World}{base e size n:Nat}{v:Value}{xs:List Value}(h:w.ownsRow base e size v n xs)(hb:Below w.heap.size w w'):w'.ownsRow base e size v n xs:=
 h.kept (below_grown hb) (by cases v.ownBlock <;> simp)
def U8s(w:World)(a:Option Addr)(l:List Int):Prop:=
 ∀i,i<len l→∃b off,a=some ⟨b,off,none⟩∧w.cell? ⟨b,off+i,none⟩=some (.int .u8 (nth l i))
theorem U8s.below{w w':World}{a:Option Addr}{l:List Int}(h:U8s w a l)(hb:Below w.heap.size w w'):U8s w' a l:=λ i hi=>by
 obtain⟨b,off,rfl,hc⟩:=h i hi
 exact⟨b,off,rfl,by rw[hb.cell (p:=⟨b,off+i,none⟩) (lt_of_cell hc)];exact hc⟩
end Go.Proofs.YtpobhbdomldecaaGreatDoor
namespace Go.Proofs.YtpobhbdomldecaaGreatDoor
set_option linter.unusedSimpArgs false
set_option linter.unusedVariables false
open Go.RowKit
def Ext(w w':World):Prop:=Below w.heap.size w w'
theorem Ext_refl:∀w,Ext w w:=λ _=>Below.refl _ _
theorem Ext_trans:∀a b c,Ext a b→Ext b c→Ext a c:=λ _ _ _ h k=>bnext h k
theorem ext_block{w w1:World}(h:Ext w w1){b:Nat}{x:Obj}(hc:w.heap[b]?=some x):w1.heap[b]?=some x:=(h.block b (lt_of_block hc)).trans hc
def ExtB(row:Option Nat)(w w':World):Prop:=w.grownBy w' row
theorem ExtB_refl(row:Option Nat):∀w,ExtB row w w:=λ _=>⟨rfl,rfl,rfl,Nat.le_refl _,λ _ _ _=>rfl⟩
theorem ExtB_trans(row:Option Nat):∀a b c,ExtB row a b→ExtB row b c→ExtB row a c:=λ _ _ _ h k=>
 ⟨k.os.trans h.os,k.tape.trans h.tape,k.output.trans h.output,Nat.le_trans h.size k.size,λ i hi hn=>(k.block i (Nat.lt_of_lt_of_le hi h.size) hn).trans (h.block i hi hn)⟩
theorem extB_block{row:Option Nat}{w w1:World}(h:ExtB row w w1){b:Nat}(hn:some b≠row){x:Obj}(hc:w.heap[b]?=some x):w1.heap[b]?=some x:=(h.block b (lt_of_block hc) hn).trans hc
theorem extB_cell{row:Option Nat}{w w1:World}(h:ExtB row w.drew w1){b o:Nat}(hn:some b≠row){v:Value}(hc:w.cell? ⟨b,o,none⟩=some v):w1.cell? ⟨b,o,none⟩=some v:=by
 have e:w1.cell? ⟨b,o,none⟩=w.cell? ⟨b,o,none⟩:=World.cell?_of_block (w:=w) (h.block b (lt_of_cell hc) hn)
 rw[e];exact hc
theorem extB_alloc(row:Option Nat)(w:World)(o:Obj):ExtB row w (w.alloc o):=World.grownBy_alloc w o row
theorem wp_of_run{P:Program}{o:Oper}{a:Act}{w w':World}{v:Value}{K:Act→World→Prop}{Q:Exit→Act→World→Prop}(h:(execOp a.eval o).run P w=.ok (.value v) w')(hK:K (a.put o.dst v) w'):o.wp P a w K Q:=by
 unfold Oper.wp;rw[h];exact hK
def Es(sp:Nat)(vo:Option Nat)(j:Nat)(w w':World):Prop:=if j=sp then ExtB vo w w' else Ext w w'
theorem ext_extB{vo:Option Nat}{w w':World}(h:Ext w w'):ExtB vo w w':=⟨h.os,h.tape,h.output,h.size,λ i hi _=>h.block i hi⟩
theorem es_extB{sp j:Nat}{vo:Option Nat}{w w':World}(h:Es sp vo j w w'):ExtB vo w w':=by
 unfold Es at h;split at h
 ·exact h
 ·exact ext_extB h
theorem es_of_ext{sp j:Nat}{vo:Option Nat}{w w':World}(h:Ext w w'):Es sp vo j w w':=by
 unfold Es;split
 ·exact ext_extB h
 ·exact h
theorem es_sp{sp:Nat}{vo:Option Nat}{w w':World}(h:ExtB vo w w'):Es sp vo sp w w':=by unfold Es;rw[if_pos rfl];exact h
def slotOf(o:Oper)(a:Act):Value:=match o.dst with | some d=>a.eval (.tmp d) | none=>undef
def valOf(o:Oper)(v:Value):Value:=match o.dst with | some _=>v | none=>undef
def dstsOf(ops:List Oper):List Nat:=ops.filterMap (·.dst)
def regOk(ops:List Oper)(n:Nat):Bool:=
 (ops.zipIdx.all fun (o,i)=>o.after.all λ e=>!Region.binds .any e || decide (e.on<i)) && decide (dstsOf ops).Nodup && (dstsOf ops).all (λ d=>decide (d<n))
section
variable (P : Program) (ops : List Oper) (a0 : Act) (w0 : World) (sp : Nat) (vo : Option Nat) (Φ : Nat → Value → World → Prop) (Q : Exit → Act → World → Prop)
def Outer(hd:Nat)(a:Act):Prop:=a.defers=a0.defers∧a.tmps.size=a0.tmps.size∧∀t,(dstsOf (ops.take hd)).contains t=false→a.eval (.tmp t)=a0.eval (.tmp t)
def Deps(a:Act)(w:World):List Edge→Prop
 | []=>True
 | e :: r=>(Region.binds .any e=true→∀o,ops[e.on]?=some o→Φ e.on (slotOf o a) w)∧Deps a w r
def StepAt(hd:Nat)(i:Nat)(o:Oper):Prop:=∀a w,ExtB vo w0 w→(i=sp→Ext w0 w)→Outer ops a0 hd a→Deps ops Φ a w o.after.toList→
 if Region.wanted o (yielded ops.toArray a.tmps)then o.wp P a w (λ a' w'=>∃v,a'=a.put o.dst v∧Es sp vo i w w'∧Φ i (valOf o v) w') Q else Φ i undef w
structure RInv(n:Nat)(listed:Array Bool)(a:Act)(w:World):Prop where
 head:HeadInv .any ops.toArray n listed
 ext:ExtB vo w0 w
 ext0:listed.getD sp true=false→Ext w0 w
 outer:Outer ops a0 n a
 done:∀(i:Nat) o,ops[i]?=some o→listed.getD i true=true→Φ i (slotOf o a) w
variable {P ops a0 w0 sp vo Φ Q}
theorem deps_of{a:Act}{w:World}:∀{l:List Edge},(∀e ∈ l,Region.binds .any e=true→∀o,ops[e.on]?=some o→Φ e.on (slotOf o a) w)→Deps ops Φ a w l
 | [],_=>trivial
 | e :: r,h=>⟨h e (List.mem_cons_self ..),deps_of λ e' he'=>h e' (List.mem_cons_of_mem _ he')⟩
theorem dst_two{ops:List Oper}(hn:(dstsOf ops).Nodup){i j:Nat}(hij:i≠j){oi oj:Oper}{d:Nat}(hi:ops[i]?=some oi)(hj:ops[j]?=some oj)(h1:oi.dst=some d)(h2:oj.dst=some d):False:=by
 induction ops generalizing i j with
 | nil=>simp at hi
 | cons o r ih=>
  unfold dstsOf at hn
  rw[List.filterMap_cons]at hn
  have hr:(dstsOf r).Nodup:=by
   unfold dstsOf
   cases ho:o.dst with
   | none=>rw[ho]at hn;exact hn
   | some d'=>rw[ho]at hn;exact(List.nodup_cons.1 hn).2
  have head:∀(k:Nat) ok,r[k]?=some ok→o.dst=some d→ok.dst=some d→False:=λ k ok hk ho hok=>by
   rw[ho]at hn
   exact(List.nodup_cons.1 hn).1 (List.mem_filterMap.2 ⟨ok,List.mem_of_getElem? hk,hok⟩)
  cases i with
  | zero=>
   cases j with
   | zero=>exact hij rfl
   | succ j=>
    simp at hi hj;subst hi
    exact head j oj hj h1 h2
  | succ i=>
   cases j with
   | zero=>
    simp at hi hj;subst hj
    exact head i oi hi h2 h1
   | succ j=>exact ih hr (λ e=>hij (congrArg (·+1) e)) (by simpa using hi) (by simpa using hj)
theorem eval_put_ne{a:Act}{d t:Nat}{v:Value}(h:t≠d):(a.put (some d) v).eval (.tmp t)=a.eval (.tmp t):=by
 show(a.tmps.setIfInBounds d v).getD t undef=a.tmps.getD t undef
 simp[Array.getD_eq_getD_getElem?,Array.getElem?_setIfInBounds_ne (Ne.symm h)]
theorem eval_put_same{a:Act}{d:Nat}{v:Value}(h:d<a.tmps.size):(a.put (some d) v).eval (.tmp d)=v:=by
 show(a.tmps.setIfInBounds d v).getD d undef=v
 simp[Array.getD_eq_getD_getElem?,h]
theorem all_of_ready_nil(hB:regOk ops a0.tmps.size=true){listed:Array Bool}(hs:listed.size=ops.length)(hr:Region.ready .any ops.toArray listed=[]):
  ∀i,i<ops.length→listed.getD i true=true:=by
 intro i
 induction i using Nat.strongRecOn with
 | _ i ih=>
  intro hi
  cases h:listed.getD i true with
  | true=>rfl
  | false=>
   exfalso
   have hm:i ∈ Region.ready .any ops.toArray listed:=by
    refine mem_ready.2 ⟨h,ops[i],by simp[hi],λ e he hb=>?_⟩
    have h1:(ops.zipIdx.all fun (o,i)=>o.after.all λ e=>!Region.binds .any e || decide (e.on<i))=true:=by
     unfold regOk at hB;simp only[Bool.and_eq_true]at hB;exact hB.1.1
    have h2:=List.all_eq_true.1 h1 (ops[i],i) (by rw[List.mem_zipIdx_iff_getElem?];simp[hi]);have h3:=Array.all_eq_true'.1 h2 e he
    simp only[hb,Bool.not_true,Bool.false_or,decide_eq_true_eq]at h3
    have h4:=ih e.on h3 (by omega);have h5:e.on<listed.size:=by omega
    simp[h5]at h4 ⊢;exact h4
   rw[hr]at hm;cases hm
def AllDone(ops:List Oper)(Φ:Nat→Value→World→Prop)(a:Act)(w:World):Nat→Nat→Prop
 | _,0=>True
 | i,n+1=>(∀o,ops[i]?=some o→Φ i (slotOf o a) w)∧AllDone ops Φ a w (i+1) n
theorem allDone_of{a:Act}{w:World}:∀(n i:Nat),(∀j,i≤j→j<i+n→∀o,ops[j]?=some o→Φ j (slotOf o a) w)→AllDone ops Φ a w i n
 | 0,_,_=>trivial
 | n+1,i,h=>⟨h i (Nat.le_refl _) (by omega),allDone_of n (i+1) λ j h1 h2=>h j (by omega) (by omega)⟩
theorem RInv.next{n:Nat}(hB:regOk ops a0.tmps.size=true)
  (hmono:∀i j v w w',i≠j→ExtB vo w0 w→Es sp vo j w w'→Φ i v w→Φ i v w') {listed:Array Bool} {a:Act} {w:World} (inv:RInv ops a0 w0 sp vo Φ n listed a w)
  {i:Nat} {o:Oper} (hi:i ∈ Region.ready .any ops.toArray listed) (hin:i<n) (ho':ops[i]?=some o) {v:Value} {w':World} (he:Es sp vo i w w') (hv:Φ i (valOf o v) w'):
  RInv ops a0 w0 sp vo Φ n (listed.setIfInBounds i true) (a.put o.dst v) w':=by
 have hnd:(dstsOf ops).Nodup:=by unfold regOk at hB;simp only[Bool.and_eq_true,decide_eq_true_eq]at hB;exact hB.1.2
 have hdl:∀d ∈ dstsOf ops,d<a0.tmps.size:=by
  unfold regOk at hB;simp only[Bool.and_eq_true]at hB
  intro d hd;simpa using List.all_eq_true.1 hB.2 d hd
 refine⟨inv.head.set hi hin,ExtB_trans _ _ _ _ inv.ext (es_extB he),λ hl=>?_,?_,?_⟩
 ·by_cases his:i=sp
  ·exfalso
   subst his
   obtain⟨hun,o',ho,_⟩:=mem_ready.1 hi
   have hil:i<listed.size:=by rw[inv.head.size];exact(Array.getElem?_eq_some_iff.1 ho).1
   simp[hil]at hl
  ·rw[getD_set_ne true his]at hl
   unfold Es at he;rw[if_neg his]at he
   exact Ext_trans _ _ _ (inv.ext0 hl) he
 ·obtain⟨h1,h2,h3⟩:=inv.outer
  cases hd:o.dst with
  | none=>exact⟨h1,h2,h3⟩
  | some d=>
   refine⟨h1,by simp[Act.put,h2],λ t ht=>?_⟩
   have hmem:d ∈ dstsOf (ops.take n):=List.mem_filterMap.2 ⟨o,List.mem_of_getElem? (i:=i) (by rw[List.getElem?_take,if_pos hin];exact ho'),hd⟩
   rw[eval_put_ne (by rintro rfl;simp at ht;exact ht hmem)];exact h3 t ht
 ·intro j oj hoj hl
  by_cases hij:j=i
  ·subst hij
   have:oj=o:=Option.some.inj (hoj.symm.trans ho')
   subst this
   unfold slotOf
   unfold valOf at hv
   cases hd:oj.dst with
   | none=>simpa [hd] using hv
   | some d=>
    simp only[hd]at hv
    have hmem:d ∈ dstsOf ops:=List.mem_filterMap.2 ⟨oj,List.mem_of_getElem? ho',hd⟩
    simp only
    rw[eval_put_same (by rw[inv.outer.2.1];exact hdl d hmem)];exact hv
  ·rw[getD_set_ne true (Ne.symm hij)]at hl
   have h1:=hmono j i _ w w' hij inv.ext he (inv.done j oj hoj hl)
   unfold slotOf at h1 ⊢
   cases hdj:oj.dst with
   | none=>first | exact h1 | simpa [hdj] using h1
   | some d=>
    try simp only[hdj]at h1 ⊢
    cases hdo:o.dst with
    | none=>exact h1
    | some d'=>
     have hne:d≠d':=by
      rintro rfl
      exact dst_two hnd (Ne.symm hij) ho' hoj hdo hdj
     rw[eval_put_ne hne];exact h1
theorem head_count{listed:Array Bool}{i:Nat}(hil:i<listed.size)(hun:listed.getD i true=false):∀L:List Nat,L.Nodup→i ∈ L→
  (L.filter (λ j=>!(listed.setIfInBounds i true).getD j true)).length+1=(L.filter (λ j=>!listed.getD j true)).length:=by
 intro L
 induction L with
 | nil=>intro _ h;cases h
 | cons x L ihL=>
  intro hnd hm
  rw[List.nodup_cons]at hnd
  simp only[List.filter_cons]
  by_cases hx:x=i
  ·subst hx
   have e1:(listed.setIfInBounds x true).getD x true=true:=by simp[hil]
   have e2:L.filter (λ j=>!(listed.setIfInBounds x true).getD j true)=L.filter (λ j=>!listed.getD j true):=by
    apply List.filter_congr
    intro y hy
    rw[getD_set_ne true (by rintro rfl;exact hnd.1 hy)]
   simp only[e1,hun,e2];simp
  ·have hm':i ∈ L:=by
    rcases List.mem_cons.1 hm with h | h
    ·exact absurd h.symm hx
    ·exact h
   have h2:=ihL hnd.2 hm'
   rw[getD_set_ne true (Ne.symm hx)]
   split <;> (try simp only[List.length_cons]) <;> omega
def headDone(n N:Nat):Array Bool:=((List.range N).map (λ i=>decide (i<n))).toArray
def regTail(ops:List Oper)(n:Nat):Bool:=
 decide (n<ops.length) && Region.sinkB .any ops.toArray n && Region.chainB .any ops.toArray n && Region.seqB .any ops.toArray (ops.length - n) n (headDone n ops.length)
theorem wpAny_head{n g:Nat}(hB:regOk ops a0.tmps.size=true)
  (hmono:∀i j v w w',i≠j→ExtB vo w0 w→Es sp vo j w w'→Φ i v w→Φ i v w') (hnN:n≤ops.length)
  (hstep:∀(i:Nat) o,i<n→ops[i]?=some o→StepAt P ops a0 w0 sp vo Φ Q n i o)
  (hlate:∀listed,HeadInv .any ops.toArray n listed→(∃i,i<n∧listed.getD i true=false)→Region.ready .any ops.toArray listed≠[]∧∀t ∈ Region.ready .any ops.toArray listed,t<n)
  (hend:∀listed a w,RInv ops a0 w0 sp vo Φ n listed a w→(∀i,i<n→listed.getD i true=true)→wpAny P .any ops.toArray Q g listed a w):
  ∀(fuel:Nat) (listed:Array Bool) (a:Act) (w:World),((List.range n).filter (λ i=>!listed.getD i true)).length=fuel→RInv ops a0 w0 sp vo Φ n listed a w→
   wpAny P .any ops.toArray Q (fuel+g) listed a w:=by
 intro fuel
 induction fuel with
 | zero=>
  intro listed a w hf inv
  rw[Nat.zero_add]
  refine hend listed a w inv λ i hi=>?_
  cases h:listed.getD i true with
  | true=>rfl
  | false=>
   have:i ∈ (List.range n).filter (λ i=>!listed.getD i true):=List.mem_filter.2 ⟨List.mem_range.2 hi,by rw[h];rfl⟩
   rw[List.eq_nil_of_length_eq_zero hf]at this;cases this
 | succ fuel ih=>
  intro listed a w hf inv
  rw[show fuel+1+g=(fuel+g)+1 by omega]
  have hex:∃i,i<n∧listed.getD i true=false:=by
   cases hl:(List.range n).filter (λ i=>!listed.getD i true)with
   | nil=>rw[hl]at hf;cases hf
   | cons x L=>
    have:x ∈ (List.range n).filter (λ i=>!listed.getD i true):=by rw[hl];exact List.mem_cons_self ..
    obtain⟨h1,h2⟩:=List.mem_filter.1 this
    exact⟨x,List.mem_range.1 h1,by simpa using h2⟩
  obtain⟨hne,hlt⟩:=hlate listed inv.head hex
  refine⟨λ hr=>absurd hr hne,λ i hi=>?_⟩
  have hin:=hlt i hi
  obtain⟨hun,o,ho,hall⟩:=mem_ready.1 hi
  have ho':ops[i]?=some o:=by simpa using ho
  have hls:listed.size=ops.length:=by rw[inv.head.size];simp
  have hdep:Deps ops Φ a w o.after.toList:=deps_of λ e he hb oj hoj=>by
   have h1:=hall e (by simpa using he) hb
   refine inv.done e.on oj hoj ?_
   have h2:e.on<listed.size:=by
    rcases Nat.lt_or_ge e.on listed.size with h | h
    ·exact h
    ·simp[Array.getElem?_eq_none h]at h1
   simp[h2]at h1 ⊢;exact h1
  have hst:=hstep i o hin ho' a w inv.ext (λ e=>inv.ext0 (by rw[←e];exact hun)) inv.outer hdep;have next:∀v w',Es sp vo i w w'→Φ i (valOf o v) w'→wpAny P .any ops.toArray Q (fuel+g) (listed.setIfInBounds i true) (a.put o.dst v) w':=by
   intro v w' he hv
   refine ih _ _ _ ?_ (inv.next hB hmono hi hin ho' he hv)
   have:=head_count (listed:=listed) (i:=i) (by omega) hun _ List.nodup_range (List.mem_range.2 hin)
   omega
  unfold wpOp
  rw[ho]
  dsimp only
  by_cases hw:Region.wanted o (yielded ops.toArray a.tmps)=true
  ·rw[if_pos hw]at hst ⊢
   left
   refine Oper.wp_mono (λ a' w' h=>?_) hst
   obtain⟨v,rfl,he,hv⟩:=h
   exact next v w' he hv
  ·rw[if_neg hw]at hst ⊢
   refine next undef w (es_of_ext (Ext_refl w)) ?_
   have e:valOf o undef=undef:=by unfold valOf;cases o.dst <;> rfl
   rw[e];exact hst
end
section
variable {P : Program} {Q : Exit → Act → World → Prop} {a : Act} {w : World} {l : List Oper} {vo : Option Nat} {Φ : Nat → Value → World → Prop}
theorem rinv_start{n sp:Nat}(hn:n≤l.length):RInv l a w.drew sp vo Φ n (Array.replicate l.length false) a w.drew:=
 ⟨⟨by simp,λ j oj _ hl=>(by rw[getD_replicate_false]at hl;cases hl),λ t _ ht=>getD_in (by simpa using ht) (getD_replicate_false _ _)⟩,ExtB_refl _ _,λ _=>Ext_refl _,⟨rfl,rfl,λ _ _=>rfl⟩,
  λ i o ho hl=>(by
   have hi:=(List.getElem?_eq_some_iff.1 ho).1
   rw[getD_in (by simpa using hi) (getD_replicate_false _ _)]at hl;cases hl)⟩
theorem start_count(n N:Nat)(h:n≤N):((List.range n).filter (λ i=>!(Array.replicate N false).getD i true)).length=n:=by
 have e:(List.range n).filter (λ i=>!(Array.replicate N false).getD i true)=List.range n:=by
  rw[List.filter_eq_self]
  intro i hi
  have hi':=List.mem_range.1 hi
  rw[getD_in (by simp;omega) (getD_replicate_false _ _)];rfl
 rw[e,List.length_range]
theorem wp_region_all{id:Nat}(sp:Nat)(vo:Option Nat)(Φ:Nat→Value→World→Prop)(hm:P.follows .mixedOrders=true)(hB:regOk l a.tmps.size=true)
  (hmono:∀i j v w1 w',i≠j→ExtB vo w.drew w1→Es sp vo j w1 w'→Φ i v w1→Φ i v w')
  (hstep:∀(i:Nat) o,i<l.length→l[i]?=some o→StepAt P l a w.drew sp vo Φ Q l.length i o)
  (hend:∀a' w',ExtB vo w.drew w'→Outer l a l.length a'→AllDone l Φ a' w' 0 l.length→Q .normal a' w'):(Code.region id l.toArray true).wp P Q a w:=by
 refine wp_region_any hm ?_
 have H:=wpAny_head (P:=P) (ops:=l) (a0:=a) (w0:=w.drew) (sp:=sp) (vo:=vo) (Φ:=Φ) (Q:=Q) (n:=l.length) (g:=0) hB hmono (Nat.le_refl _) hstep
  (λ listed inv ⟨i,hi,hun⟩=>⟨λ hr=>(by
    have:=all_of_ready_nil (a0:=a) hB (by rw[inv.size];simp) hr i hi
    rw[hun]at this;cases this),λ t ht=>(by
    obtain⟨_,o,ho,_⟩:=mem_ready.1 ht
    have:=(Array.getElem?_eq_some_iff.1 ho).1;simpa using this)⟩)
  (λ listed a' w' inv hall=>⟨(by
    rw[List.eq_nil_iff_forall_not_mem]
    intro i hi
    obtain⟨h1,o,ho,_⟩:=mem_ready.1 hi
    have:=hall i (by have:=(Array.getElem?_eq_some_iff.1 ho).1;simpa using this)
    rw[h1]at this;cases this),hend a' w' inv.ext inv.outer (allDone_of _ _ λ j _ h2 o ho=>inv.done j o ho (hall j (by omega)))⟩)
  l.length (Array.replicate l.length false) a w.drew (start_count _ _ (Nat.le_refl _)) (rinv_start (Nat.le_refl _))
 simpa using H
theorem headDone_of{n N:Nat}{listed:Array Bool}(hs:listed.size=N)(h1:∀i,i<n→listed.getD i true=true)(h2:∀i,n≤i→i<N→listed.getD i true=false)(hn:n≤N):listed=headDone n N:=by
 apply Array.ext
 ·simp[headDone,hs]
 ·intro i h3 h4
  have h5:listed.getD i true=listed[i]:=by simp[h3]
  have e:(headDone n N)[i]=decide (i<n):=by simp[headDone]
  rw[e,←h5]
  rcases Nat.lt_or_ge i n with h | h
  ·rw[h1 i h];simp[h]
  ·rw[h2 i h (by omega)];simp;omega
theorem wp_region_tail{id:Nat}(n:Nat)(sp:Nat)(vo:Option Nat)(Φ:Nat→Value→World→Prop)(hm:P.follows .mixedOrders=true)(hB:regOk l a.tmps.size=true)(hT:regTail l n=true)
  (hmono:∀i j v w1 w',i≠j→ExtB vo w.drew w1→Es sp vo j w1 w'→Φ i v w1→Φ i v w')
  (hstep:∀(i:Nat) o,i<n→l[i]?=some o→StepAt P l a w.drew sp vo Φ Q n i o)
  (hend:∀a' w',ExtB vo w.drew w'→Outer l a n a'→AllDone l Φ a' w' 0 n→wpList P l.toArray Q (l.drop n) a' w'):(Code.region id l.toArray true).wp P Q a w:=by
 unfold regTail at hT
 simp only[Bool.and_eq_true,decide_eq_true_eq]at hT
 obtain⟨⟨⟨hn,hs⟩,hc⟩,hseq⟩:=hT
 refine wp_region_any hm ?_
 have H:=wpAny_head (P:=P) (ops:=l) (a0:=a) (w0:=w.drew) (sp:=sp) (vo:=vo) (Φ:=Φ) (Q:=Q) (n:=n) (g:=l.length - n) hB hmono (by omega) hstep
  (λ listed inv ⟨i,hi,hun⟩=>⟨λ hr=>(by
    have:=all_of_ready_nil (a0:=a) hB (by rw[inv.size];simp) hr i (by omega)
    rw[hun]at this;cases this),λ t ht=>(by
    rcases Nat.lt_or_ge t n with h | h
    ·exact h
    ·exact absurd ht (tail_waits hs hc (by simpa using hn) inv (n - i) i rfl hi hun t h))⟩)
  (λ listed a' w' inv hall=>(by
    have e:=headDone_of (n:=n) (N:=l.length) (by rw[inv.head.size];simp) hall (λ i h1 h2=>inv.head.tail i h1 (by simpa using h2)) (by omega);have h:=wpAny_of_seq (P:=P) (md:=.any) (Q':=Q) (ops:=l.toArray) (l.drop n) n listed a' w' (λ j=>by simp[List.getElem?_drop]) (by rw[List.length_drop,e];exact hseq)
     (hend a' w' inv.ext inv.outer (allDone_of _ _ λ j _ h2 o ho=>inv.done j o ho (hall j (by omega))))
    rwa [List.length_drop]at h))
  n (Array.replicate l.length false) a w.drew (start_count _ _ (by omega)) (rinv_start (by omega))
 rw[show n+(l.length - n)=l.length by omega]at H
 simpa using H
end
theorem ev_form(a:Act)(t:Nat):a.eval (.tmp t)=a.tmps[t]?.getD undef:=by show a.tmps.getD t undef=_;rw[Array.getD_eq_getD_getElem?]
theorem QEf (a : Act) (t : Nat) (v : Value) (h : a.eval (.tmp t) = v) : a.tmps[t]?.getD undef = v := (ev_form a t).symm.trans h
theorem wp_of_call{P:Program}{o:Oper}{a:Act}{w:World}{v:Value}{f:FuncId}{args:Array Value}{K:Act→World→Prop}{Q:Exit→Act→World→Prop}(h:(execOp a.eval o).run P w=.ok (.enter f args) w)
  (hc:Calls P f args w (λ e w'=>e=.returned v∧Below w.heap.size w w')) (hK:∀w',Below w.heap.size w w'→K (a.put o.dst v) w'):o.wp P a w K Q:=by
 unfold Oper.wp;rw[h]
 exact hc.mono λ e w' ⟨he,hb⟩=>by subst he;exact hK w' hb
theorem wp_of_panic{P:Program}{o:Oper}{a:Act}{w:World}{chain:List PanicEntry}{f:FuncId}{args:Array Value}{K:Act→World→Prop}{Q:Exit→Act→World→Prop}(h:(execOp a.eval o).run P w=.ok (.enter f args) w)
  (hc:Calls P f args w (λ e w'=>e=.panicked chain∧Below w.heap.size w w')) (hK:∀w',Below w.heap.size w w'→Q (.panic chain) a w'):o.wp P a w K Q:=by
 unfold Oper.wp;rw[h]
 exact hc.mono λ e w' ⟨he,hb⟩=>by subst he;exact hK w' hb
theorem extB_none{w w':World}(h:ExtB none w w'):Below w.heap.size w w':=⟨h.os,h.tape,h.output,h.size,λ i hi=>h.block i hi (by simp)⟩
theorem of_drew{w w1:World}(h:ExtB none w.drew w1):Below w.heap.size w w1:=bnext (bdrew (Below.refl _ _)) (extB_none h)
def phis(L:List (Value→World→Prop))(i:Nat):Value→World→Prop:=L.getD i (λ _ _=>True)
def MonoAll(sp:Nat)(vo:Option Nat):Nat→List (Value→World→Prop)→Prop
 | _,[]=>True
 | i,φ :: r=>((∀v w1 w',Ext w1 w'→φ v w1→φ v w')∧(i≠sp→∀v w1 w',ExtB vo w1 w'→φ v w1→φ v w'))∧MonoAll sp vo (i+1) r
theorem mono_at{sp:Nat}{vo:Option Nat}:∀{L:List (Value→World→Prop)} {k:Nat},MonoAll sp vo k L→∀i v w1 w',
  (Ext w1 w'→L.getD i (λ _ _=>True) v w1→L.getD i (λ _ _=>True) v w')∧(k+i≠sp→ExtB vo w1 w'→L.getD i (λ _ _=>True) v w1→L.getD i (λ _ _=>True) v w')
 | [],_,_,_,_,_,_=>by simp
 | φ :: r,k,h,0,v,w1,w'=>⟨h.1.1 v w1 w',λ hn=>h.1.2 hn v w1 w'⟩
 | φ :: r,k,h,i+1,v,w1,w'=>by
  have:=mono_at (L:=r) h.2 i v w1 w'
  rw[Nat.add_assoc,Nat.add_comm 1 i]at this
  exact this
theorem mono_of{sp:Nat}{vo:Option Nat}{w0:World}{L:List (Value→World→Prop)}(h:MonoAll sp vo 0 L):∀i j v w1 w',i≠j→ExtB vo w0 w1→Es sp vo j w1 w'→phis L i v w1→phis L i v w':=by
 intro i j v w1 w' hij _ he hp
 have hh:=mono_at h i v w1 w'
 rw[Nat.zero_add]at hh
 unfold Es at he
 split at he
 ·rename_i hj;exact hh.2 (by rw[←hj];exact hij) he hp
 ·exact hh.1 he hp
theorem mono_eq{sp:Nat}{vo:Option Nat}{i:Nat}{f:Value→Prop}:(∀v w1 w',Ext w1 w'→(λ v (_:World)=>f v) v w1→(λ v (_:World)=>f v) v w')∧(i≠sp→∀v w1 w',ExtB vo w1 w'→(λ v (_:World)=>f v) v w1→(λ v (_:World)=>f v) v w'):=
 ⟨λ _ _ _ _ h=>h,λ _ _ _ _ _ h=>h⟩
def StepsFrom(P:Program)(ops:List Oper)(a0:Act)(w0:World)(sp:Nat)(vo:Option Nat)(Φ:Nat→Value→World→Prop)(Q:Exit→Act→World→Prop)(hd:Nat):Nat→Nat→List Oper→Prop
 | _,0,_=>True
 | _,_+1,[]=>True
 | i,n+1,o :: r=>StepAt P ops a0 w0 sp vo Φ Q hd i o∧StepsFrom P ops a0 w0 sp vo Φ Q hd (i+1) n r
theorem steps_from{P:Program}{ops:List Oper}{a0:Act}{w0:World}{sp:Nat}{vo:Option Nat}{Φ:Nat→Value→World→Prop}{Q:Exit→Act→World→Prop}{hd:Nat}:
  ∀(n k:Nat) (r:List Oper),StepsFrom P ops a0 w0 sp vo Φ Q hd k n r→∀(i:Nat) o,i<n→r[i]?=some o→StepAt P ops a0 w0 sp vo Φ Q hd (k+i) o
 | 0,_,_,_,_,_,h,_=>by omega
 | _+1,_,[],_,_,_,_,h=>by simp at h
 | n+1,k,x :: r,h,0,o,_,ho=>by simp at ho;subst ho;exact h.1
 | n+1,k,x :: r,h,i+1,o,hi,ho=>by
  have:=steps_from n (k+1) r h.2 i o (by omega) (by simpa using ho)
  rwa [Nat.add_assoc,Nat.add_comm 1 i]at this
theorem steps_of{P:Program}{ops:List Oper}{a0:Act}{w0:World}{sp:Nat}{vo:Option Nat}{Φ:Nat→Value→World→Prop}{Q:Exit→Act→World→Prop}{hd:Nat}(n:Nat)
  (h:StepsFrom P ops a0 w0 sp vo Φ Q hd 0 n ops):∀(i:Nat) o,i<n→ops[i]?=some o→StepAt P ops a0 w0 sp vo Φ Q hd i o:=λ i o hi ho=>by
 have:=steps_from n 0 ops h i o hi ho
 rwa [Nat.zero_add]at this
section
variable {P : Program} {ops : List Oper} {a0 : Act} {w0 : World} {sp : Nat} {vo : Option Nat} {Φ : Nat → Value → World → Prop} {Q : Exit → Act → World → Prop} {hd : Nat} {i : Nat} {o : Oper}
theorem step_wp(h:∀a w1,ExtB vo w0 w1→(i=sp→Ext w0 w1)→Outer ops a0 hd a→Deps ops Φ a w1 o.after.toList→
  Region.wanted o (yielded ops.toArray a.tmps)=true∧o.wp P a w1 (λ a' w'=>∃v,a'=a.put o.dst v∧Es sp vo i w1 w'∧Φ i (valOf o v) w') Q):StepAt P ops a0 w0 sp vo Φ Q hd i o:=λ a w1 hE hS hO hD=>by
 obtain⟨h1,h2⟩:=h a w1 hE hS hO hD
 rw[if_pos h1];exact h2
theorem step_val{v:Value}(h:∀a w1,ExtB vo w0 w1→(i=sp→Ext w0 w1)→Outer ops a0 hd a→Deps ops Φ a w1 o.after.toList→
  Region.wanted o (yielded ops.toArray a.tmps)=true∧(execOp a.eval o).run P w1=.ok (.value v) w1) (hφ:∀w1,Φ i (valOf o v) w1):StepAt P ops a0 w0 sp vo Φ Q hd i o:=λ a w1 hE hS hO hD=>by
 obtain⟨h1,h2⟩:=h a w1 hE hS hO hD
 rw[if_pos h1]
 unfold Oper.wp
 rw[h2]
 exact⟨v,rfl,es_of_ext (Ext_refl w1),hφ w1⟩
theorem step_skip(h:∀a w1,ExtB vo w0 w1→(i=sp→Ext w0 w1)→Outer ops a0 hd a→Deps ops Φ a w1 o.after.toList→Region.wanted o (yielded ops.toArray a.tmps)=false)(hφ:∀w1,Φ i undef w1):StepAt P ops a0 w0 sp vo Φ Q hd i o:=λ a w1 hE hS hO hD=>by
 rw[if_neg (by rw[h a w1 hE hS hO hD];exact Bool.false_ne_true)];exact hφ w1
theorem yielded_of{ops:Array Oper}{j d:Nat}{oj:Oper}{a:Act}{b:Bool}(hj:ops[j]?=some oj)(hd:oj.dst=some d)(hv:a.eval (.tmp d)=.bool b):yielded ops a.tmps j=some b:=by
 have h:a.tmps.getD d undef=.bool b:=hv
 unfold yielded
 rw[hj]
 simp only[Option.bind_some,hd]
 cases ht:a.tmps[d]? with
 | none=>
  rw[Array.getD_eq_getD_getElem?,ht]at h
  cases h
 | some x=>
  rw[Array.getD_eq_getD_getElem?,ht]at h
  simp at h;subst h;rfl
theorem wanted_of{l:List Oper}{o oj:Oper}{j d:Nat}{want b:Bool}{a:Act}(hg:o.guard=some (j,want))(hj:l.toArray[j]?=some oj)(hd:oj.dst=some d)(hv:a.eval (.tmp d)=.bool b):
  Region.wanted o (yielded l.toArray a.tmps)=(b == want):=by
 unfold Region.wanted
 rw[hg]
 simp only[yielded_of hj hd hv]
 cases b <;> cases want <;> rfl
theorem wY{l:List Oper}{o oj:Oper}{j d:Nat}{b:Bool}{a:Act}(hg:o.guard=some (j,b))(hj:l.toArray[j]?=some oj)(hd:oj.dst=some d)(hv:a.eval (.tmp d)=.bool b):
  Region.wanted o (yielded l.toArray a.tmps)=true:=by rw[wanted_of hg hj hd hv];cases b <;> rfl
theorem wN{l:List Oper}{o oj:Oper}{j d:Nat}{want b:Bool}{a:Act}(hg:o.guard=some (j,want))(hj:l.toArray[j]?=some oj)(hd:oj.dst=some d)(hv:a.eval (.tmp d)=.bool b)(hn:(b == want)=false):
  Region.wanted o (yielded l.toArray a.tmps)=false:=by rw[wanted_of hg hj hd hv,hn]
theorem qE{a:Act}{t:Nat}{v:Value}(h:a.eval (.tmp t)=v):a.tmps[t]?.getD undef=v:=(ev_form a t).symm.trans h
theorem qF(a:Act)(t:Nat)(v:Value)(h:a.eval (.tmp t)=v):a.tmps[t]?.getD undef=v:=(ev_form a t).symm.trans h
theorem qJ{a:Act}(t:Nat){v:Value}(h:a.eval (.tmp t)=v):a.eval (.tmp t)=v:=h
theorem qS(h:∀a w1,Deps ops Φ a w1 o.after.toList→Region.wanted o (yielded ops.toArray a.tmps)=false)(hφ:∀w1,Φ i undef w1):StepAt P ops a0 w0 sp vo Φ Q hd i o:=step_skip (λ a w1 _ _ _ hD=>h a w1 hD) hφ
theorem qV{v:Value}(hφ:∀w1,Φ i (valOf o v) w1)(hg:o.guard=none)(h:∀a w1,ExtB vo w0 w1→Outer ops a0 hd a→Deps ops Φ a w1 o.after.toList→(execOp a.eval o).run P w1=.ok (.value v) w1):StepAt P ops a0 w0 sp vo Φ Q hd i o:=
 step_val (λ a w1 hE _ hO hD=>⟨by unfold Region.wanted;rw[hg],h a w1 hE hO hD⟩) hφ
abbrev qv(v:Value):Value→World→Prop:=λ u _=>u=v
theorem mono_qv{sp:Nat}{vo:Option Nat}:∀{L:List Value} {k:Nat},MonoAll sp vo k (L.map qv)
 | [],_=>trivial
 | _ :: _,_=>⟨mono_eq,mono_qv⟩
theorem act_of_outer{a:Act}{ds:List Nat}(hds:dstsOf (ops.take hd)=ds)(h:Outer ops a0 hd a)(hB:regOk ops a0.tmps.size=true):a=ds.foldl (λ b d=>b.put (some d) (a.eval (.tmp d))) a0:=by
 subst hds
 have hdl:∀d ∈ dstsOf (ops.take hd),d<a0.tmps.size:=by
  unfold regOk at hB;simp only[Bool.and_eq_true]at hB
  intro d hdd
  obtain⟨o,ho,hd'⟩:=List.mem_filterMap.1 hdd
  simpa using List.all_eq_true.1 hB.2 d (List.mem_filterMap.2 ⟨o,List.mem_of_mem_take ho,hd'⟩)
 obtain⟨h1,h2,h3⟩:=h
 have gen:∀(ds:List Nat) (b:Act),b.defers=a.defers→b.tmps.size=a.tmps.size→(∀d ∈ ds,d<b.tmps.size)→
   (ds.foldl (λ b d=>b.put (some d) (a.eval (.tmp d))) b).defers=a.defers∧(ds.foldl (λ b d=>b.put (some d) (a.eval (.tmp d))) b).tmps.size=a.tmps.size∧
   ∀t,(ds.foldl (λ b d=>b.put (some d) (a.eval (.tmp d))) b).eval (.tmp t)=if ds.contains t then a.eval (.tmp t)else b.eval (.tmp t):=by
  intro ds
  induction ds with
  | nil=>intro b hb1 hb2 _;exact⟨hb1,hb2,λ t=>by simp⟩
  | cons d ds ih=>
   intro b hb1 hb2 hb3
   obtain⟨i1,i2,i3⟩:=ih (b.put (some d) (a.eval (.tmp d))) hb1 (by simp[Act.put,hb2]) (λ d' hd'=>by simp[Act.put];exact hb3 d' (List.mem_cons_of_mem _ hd'))
   refine⟨i1,i2,λ t=>?_⟩
   rw[List.foldl_cons,i3 t]
   by_cases ht:ds.contains t=true
   ·simp at ht;simp[ht]
   ·by_cases htd:t=d
    ·subst htd
     rw[eval_put_same (hb3 t (List.mem_cons_self ..))];simp
    ·rw[eval_put_ne htd]
     simp at ht;simp[ht,htd]
 obtain⟨g1,g2,g3⟩:=gen (dstsOf (ops.take hd)) a0 h1.symm h2.symm hdl
 have ext:∀(x y:Act),x.defers=y.defers→x.tmps.size=y.tmps.size→(∀t,x.eval (.tmp t)=y.eval (.tmp t))→x=y:=by
  intro x y e1 e2 e3
  obtain⟨xt,xd⟩:=x
  obtain⟨yt,yd⟩:=y
  simp only at e1 e2
  subst e1
  have:xt=yt:=by
   apply Array.ext e2
   intro k hk1 hk2
   have h:xt.getD k undef=yt.getD k undef:=e3 k
   simpa [Array.getD_eq_getD_getElem?,hk1,hk2] using h
  rw[this]
 refine ext _ _ g1.symm g2.symm λ t=>?_
 rw[g3 t]
 cases hc:(dstsOf (ops.take hd)).contains t with
 | true=>simp
 | false=>simp only[Bool.false_eq_true,if_false];exact h3 t hc
end
end Go.Proofs.YtpobhbdomldecaaGreatDoor
namespace Go.Proofs.YtpobhbdomldecaaGreatDoor
set_option linter.unusedSimpArgs false
set_option linter.unusedVariables false
open Go.RowKit
theorem bits_or_nat(a b:Nat)(ha:a<18446744073709551616)(hb:b<18446744073709551616):bits BinOp.or IntKind.u64 (a:Int) (b:Int)=((a ||| b:Nat):Int):=by
 have h:(a ||| b:Nat)<2 ^ 64:=Nat.or_lt_two_pow (by omega) (by omega)
 unfold bits
 show IntKind.u64.wrap (((BitVec.ofInt 64 (a:Int) ||| BitVec.ofInt 64 (b:Int)).toNat:Nat):Int)=_
 rw[BitVec.toNat_or,BitVec.toNat_ofInt,BitVec.toNat_ofInt]
 have e1:((a:Int) % ((2 ^ 64:Nat):Int)).toNat=a:=by omega
 have e2:((b:Int) % ((2 ^ 64:Nat):Int)).toNat=b:=by omega
 rw[e1,e2]
 exact IntWalk.u64_in _ ⟨by omega,by omega⟩
theorem shl_or(x c:Int)(h0:0≤x)(h1:x≤72057594037927935)(c0:0≤c)(c1:c≤255):bits BinOp.or IntKind.u64 (x * 256) c=x * 256+c:=by
 obtain⟨a,rfl⟩:=Int.eq_ofNat_of_zero_le h0
 obtain⟨b,rfl⟩:=Int.eq_ofNat_of_zero_le c0
 have e:((a:Int) * 256)=((a * 256:Nat):Int):=by omega
 rw[e,bits_or_nat _ _ (by omega) (by omega)]
 have h:a * 256 ||| b=a * 256+b:=by
  have:=Nat.shiftLeft_add_eq_or_of_lt (by omega:b<2 ^ 8) a
  rw[Nat.shiftLeft_eq]at this
  exact this.symm
 rw[h];omega
end Go.Proofs.YtpobhbdomldecaaGreatDoor
namespace Go.Proofs.YtpobhbdomldecaaGreatDoor
set_option linter.unusedSimpArgs false
set_option linter.unusedVariables false
open Go.RowKit
structure URow where
 lo:Int
 hi:Int
 size:Int
 least:Int
def URow.cells(r:URow):List Value:=[.int .u8 r.lo,.int .u8 r.hi,.int .i64 r.size,.int .u64 r.least]
theorem URow.cells_len(r:URow):r.cells.length=4:=rfl
def URow.zero:URow:=⟨0,0,0,0⟩
def unth(l:List URow)(i:Nat):URow:=l.getD i URow.zero
theorem unth_eq(l:List URow)(i:Nat)(h:i<l.length):unth l i=l[i]:=by unfold unth;rw[List.getD_eq_getElem?_getD,List.getElem?_eq_getElem h];rfl
structure URowAt(w:World)(b o:Nat)(r:URow):Prop where
 c0:w.cell? ⟨b,o,none⟩=some (.int .u8 r.lo)
 c1:w.cell? ⟨b,o+1,none⟩=some (.int .u8 r.hi)
 c2:w.cell? ⟨b,o+2,none⟩=some (.int .i64 r.size)
 c3:w.cell? ⟨b,o+3,none⟩=some (.int .u64 r.least)
theorem URowAt.below{w w':World}{b o:Nat}{r:URow}(h:URowAt w b o r)(hb:Below w.heap.size w w'):URowAt w' b o r:=by
 have hl:=lt_of_cell h.c0;have e:∀q,w'.cell? ⟨b,q,none⟩=w.cell? ⟨b,q,none⟩:=λ q=>hb.cell (p:=⟨b,q,none⟩) hl
 obtain⟨c0,c1,c2,c3⟩:=h
 constructor <;> (rw[e];assumption)
def URows(w:World)(a:Option Addr)(l:List URow):Prop:=∀i,i<len l→∃b off,a=some ⟨b,off,none⟩∧URowAt w b (off+i * 4) (unth l i)
theorem URows.below{w w':World}{a:Option Addr}{l:List URow}(h:URows w a l)(hb:Below w.heap.size w w'):URows w' a l:=λ i hi=>by
 obtain⟨b,off,rfl,hc⟩:=h i hi
 exact⟨b,off,rfl,hc.below hb⟩
theorem URows.block{w:World}{g:Nat}{l:List URow}{t:TypeId}{fr:Nat × Nat}(h:w.heap[g]?=some (.cells (l.flatMap URow.cells).toArray t fr)):URows w (some ⟨g,0,none⟩) l:=λ i hi=>⟨g,0,rfl,by
 have key:∀r,r<4→w.cell? ⟨g,0+i * 4+r,none⟩=(unth l i).cells[r]?:=λ r hr=>by
  rw[Nat.zero_add,block_cell h,List.getElem?_toArray,flat_get URow.cells 4 URow.cells_len l i r hi hr,unth_eq l i hi]
 exact⟨key 0 (by decide),key 1 (by decide),key 2 (by decide),key 3 (by decide)⟩⟩
def byte(s:ByteArray)(i:Nat):Int:=(s.data.toList.getD i 0).toNat
theorem byte_bd(s:ByteArray)(i:Nat):0≤byte s i∧byte s i≤255:=by unfold byte;have:=UInt8.toNat_lt (s.data.toList.getD i 0);omega
theorem ext_size(s:ByteArray){q:Nat}(h:1+q≤s.size):(s.extract 1 (1+q)).size=q:=by simp[ByteArray.size_extract];omega
theorem ext_byte(s:ByteArray){q j:Nat}(h:1+q≤s.size)(hj:j<q):byte (s.extract 1 (1+q)) j=byte s (1+j):=by
 unfold byte
 rw[Lib.extract_data,List.getD_eq_getElem?_getD,List.getD_eq_getElem?_getD,List.getElem?_take,if_pos (by omega),List.getElem?_drop]
theorem conv_bytes(w:World)(s:ByteArray):∃cap w',(convert 9 41 (.string s)).run Tryz.prog w=.ok (.slice (some ⟨w.heap.size,0,none⟩) s.size cap) w'∧Below w.heap.size w w'∧w'.heap.size=w.heap.size+1∧∀j,j<s.size→w'.cell? ⟨w.heap.size,j,none⟩=some (.int .u8 (byte s j)):=by
 have h:Below w.heap.size w (w.drew.alloc (.cells (Lib.bytesCells w 5 s) 5)):=((Below.refl _ _).drew).alloc (by simp) _
 exact⟨_,_,Lib.run_convert_string_bytes w 9 41 5 s Tryz.underlying9 Tryz.underlying41 Tryz.underlying5,⟨h.os,h.tape,h.output,by rw[Lib.bytesWorld_size];omega,λ i hi=>Lib.bytesWorld_at_old _ _ _ _ hi⟩,Lib.bytesWorld_size _ _ _,λ j hj=>Lib.bytesWorld_cell w _ s j hj⟩
def chainOf(k:Int):List PanicEntry:=[{ v:=.iface 27 (.int .i64 k),recovered:=false }]
theorem stop_any(k:Int)(w:World):Calls Tryz.prog 282 #[.int .i64 k] w λ e w'=>e=.panicked (chainOf k)∧w'=w:=by
 go_enter Tryz.func282,Tryz.ntmps282
 go_wp2
 exact⟨rfl,rfl,rfl⟩
def be(s:ByteArray):Nat→Int
 | 0=>0
 | k+1=>be s k * 256+byte s (1+k)
def headOf(s:ByteArray)(rows:List URow):Except Int (Int × ByteArray):=
 if s.size=0 then .error 4
 else match rows.find? (λ r=>decide (r.lo≤byte s 0) && decide (byte s 0≤r.hi))with
  | none=>.error 5
  | some r=>
   if(s.size:Int)<1+r.size then .error 4
   else if(if r.size=0 then byte s 0 - r.lo else be s r.size.toNat)<r.least then .error 5
   else .ok (if r.size=0 then byte s 0 - r.lo else be s r.size.toNat,s.extract (1+r.size.toNat) s.size)
structure URow.Ok(r:URow):Prop where
 lo0:0≤r.lo
 hi1:r.hi≤255
 sz0:0≤r.size
 sz1:r.size≤8
 le0:0≤r.least
 le1:r.least≤4294967296
def HeadIs(res:Except Int (Int × ByteArray))(w:World)(e:Ending)(w':World):Prop:=
 Below w.heap.size w w'∧match res with
  | .ok x=>e=.returned (.agg #[.int .u64 x.1,.string x.2])
  | .error k=>e=.panicked (chainOf k)
theorem headIs_ok{n:Int}{rest:ByteArray}{w w':World}{e:Ending}(h:HeadIs (.ok (n,rest)) w e w'):e=.returned (.agg #[.int .u64 n,.string rest])∧Below w.heap.size w w':=⟨h.2,h.1⟩
theorem headIs_err{k:Int}{w w':World}{e:Ending}(h:HeadIs (.error k) w e w'):e=.panicked (chainOf k)∧Below w.heap.size w w':=⟨h.2,h.1⟩
theorem byte0(s:ByteArray)(h:0<s.size):(s[0].toNat:Int)=byte s 0:=by
 unfold byte
 rw[List.getD_eq_getElem?_getD,List.getElem?_eq_getElem (by simpa using h)];rfl
theorem head_find{s:ByteArray}{l:List URow}{k:Nat}(hk:k<len l)(hn:∀j,j<k→¬((unth l j).lo≤byte s 0∧byte s 0≤(unth l j).hi))(hy:(unth l k).lo≤byte s 0∧byte s 0≤(unth l k).hi):
  l.find? (λ r=>decide (r.lo≤byte s 0) && decide (byte s 0≤r.hi))=some (unth l k):=by
 rw[unth_eq l k hk]at hy ⊢
 rw[List.find?_eq_some_iff_getElem]
 refine⟨by simp[hy],k,hk,rfl,λ j hj=>?_⟩
 have hjl:j<l.length:=Nat.lt_trans hj hk;have:=hn j hj
 rw[unth_eq l j hjl]at this
 simp only[Bool.not_eq_true',Bool.and_eq_false_iff,decide_eq_false_iff_not]
 by_cases h:l[j].lo≤byte s 0
 ·exact .inr λ h2=>this ⟨h,h2⟩
 ·exact .inl h
theorem head_none{s:ByteArray}{l:List URow}(hs:0<s.size)(hn:∀j,j<len l→¬((unth l j).lo≤byte s 0∧byte s 0≤(unth l j).hi)):headOf s l=.error 5:=by
 unfold headOf
 rw[if_neg (by omega)]
 have:l.find? (λ r=>decide (r.lo≤byte s 0) && decide (byte s 0≤r.hi))=none:=by
  rw[List.find?_eq_none]
  intro x hx
  obtain⟨j,hj,rfl⟩:=List.getElem_of_mem hx
  have:=hn j hj
  rw[unth_eq l j hj]at this
  simp only[Bool.and_eq_true,decide_eq_true_eq,not_and]
  exact λ h h2=>this ⟨h,h2⟩
 rw[this]
theorem head_row{s:ByteArray}{l:List URow}{r:URow}(hs:0<s.size)(h:l.find? (λ r=>decide (r.lo≤byte s 0) && decide (byte s 0≤r.hi))=some r):
  headOf s l=if(s.size:Int)<1+r.size then .error 4
   else if(if r.size=0 then byte s 0 - r.lo else be s r.size.toNat)<r.least then .error 5
   else .ok (if r.size=0 then byte s 0 - r.lo else be s r.size.toNat,s.extract (1+r.size.toNat) s.size):=by
 unfold headOf
 rw[if_neg (by omega),h]
def numAt(s:ByteArray)(r:URow)(j:Nat):Int:=if r.size=0 then byte s 0 - r.lo else be s j
theorem be_bd(s:ByteArray):∀j,0≤be s j∧be s j<256 ^ j
 | 0=>⟨by simp[be],by simp[be]⟩
 | j+1=>by
  have:=be_bd s j;have:=byte_bd s (1+j)
  rw[be,Int.pow_succ]
  omega
theorem numAt_bd{s:ByteArray}{r:URow}{j:Nat}(hj:(j:Int)≤8)(h:r.Ok)(hlo:r.lo≤byte s 0):0≤numAt s r j∧numAt s r j≤18446744073709551615:=by
 unfold numAt
 have hb:=byte_bd s 0;have hl:=h.lo0
 split
 ·omega
 ·have h1:=be_bd s j
  have h2:(256:Int) ^ j≤256 ^ 8:=by
   obtain⟨d,hd⟩:∃d,8=j+d:=⟨8 - j,by omega⟩
   rw[hd,Int.pow_add]
   have h3:(0:Int)<256 ^ j:=Int.pow_pos (by decide);have h4:(0:Int)<256 ^ d:=Int.pow_pos (by decide);have h5:=Int.mul_le_mul_of_nonneg_left (show(1:Int)≤256 ^ d by omega) (Int.le_of_lt h3)
   rw[Int.mul_one]at h5;exact h5
  have h5:(256:Int) ^ 8=18446744073709551616:=by decide
  omega
theorem numAt_lt{s:ByteArray}{r:URow}{j:Nat}(hj:j≤7)(h:r.Ok)(hlo:r.lo≤byte s 0):numAt s r j≤72057594037927935:=by
 unfold numAt
 have hb:=byte_bd s 0;have hl:=h.lo0
 split
 ·omega
 ·have h1:=be_bd s j
  have h2:(256:Int) ^ j≤256 ^ 7:=by
   obtain⟨d,hd⟩:∃d,7=j+d:=⟨7 - j,by omega⟩
   rw[hd,Int.pow_add]
   have h3:(0:Int)<256 ^ j:=Int.pow_pos (by decide);have h4:(0:Int)<256 ^ d:=Int.pow_pos (by decide);have h5:=Int.mul_le_mul_of_nonneg_left (show(1:Int)≤256 ^ d by omega) (Int.le_of_lt h3)
   rw[Int.mul_one]at h5;exact h5
  have h5:(256:Int) ^ 7=72057594037927936:=by decide
  omega
theorem numAt_succ(s:ByteArray)(r:URow)(j:Nat)(h:r.size≠0):numAt s r (j+1)=numAt s r j * 256+byte s (1+j):=by
 unfold numAt;rw[if_neg h,if_neg h];rfl
set_option maxRecDepth 100000 in
set_option maxHeartbeats 2000000 in
theorem head_any(s:ByteArray)(a:Option Addr)(cap:Nat)(l:List URow)(w:World)(hs:s.size≤9223372036854775807)(hl0:0<len l)(hl:len l≤100)(hc:URows w a l)(hok:∀i,(unth l i).Ok):
  Calls Tryz.prog 265 #[.string s,.slice a (len l) cap] w (HeadIs (headOf s l) w):=by
 have HC:=Lib.hid hc;have HO:=Lib.hid hok;clear hc hok
 by_cases h0:s.size=0
 ·have he:s.toList.isEmpty=true:=by rw[ByteArray.toList_eq];cases s with | mk d=>simp_all [ByteArray.size]
  have E:Hid (headOf s l=.error 4):=Lib.hid (by unfold headOf;rw[if_pos h0]);clear h0
  go_enter Tryz.func265,Tryz.ntmps265
  go_wp2
  go_step3
  go_wp2_with fail
  refine(stop_any 4 _).mono ?_
  rintro e w1 ⟨rfl,rfl⟩
  go_wp2
  rw[E.out]
  exact⟨rfl,by(repeat (first | exact Below.refl _ _ | assumption | (refine bdrew ?_) | (refine bdrewN ?_ _) | (refine balloc ?_ _) | (refine bset ?_ (by first | omega | (simp;done) | (simp;omega)) _) | (refine bnext ?_ (by assumption)))),rfl⟩
 have he:s.toList.isEmpty=false:=by rw[ByteArray.toList_eq];cases s with | mk d=>simp_all [ByteArray.size]
 have hs0:0<s.size:=by omega
 clear h0
 go_enter Tryz.func265,Tryz.ntmps265
 go_wp2
 go_step3
 go_wp2
 go_step3
 go_wp2
 go_loopw [16] (λ i wr=>∃k:Nat,k<len l∧i=.int .i64 k∧Below w.heap.size w wr∧Hid (∀j,j<k→¬((unth l j).lo≤byte s 0∧byte s 0≤(unth l j).hi))∧
  Hid (wr.heap[w.heap.size]?=some (.cells #[.int .u64 0,.string ⟨#[]⟩] 306 (0,0)))∧Hid (wr.heap[w.heap.size+1]?=some (.cells #[.int .u8 0,.int .u8 0,.int .i64 0,.int .u64 0] 342 (0,0)))) (λ i _=>len l - (intOf i).toNat)
 case atStart=>exact⟨0,hl0,rfl,(by(repeat (first | exact Below.refl _ _ | assumption | (refine bdrew ?_) | (refine bdrewN ?_ _) | (refine balloc ?_ _) | (refine bset ?_ (by first | omega | (simp;done) | (simp;omega)) _) | (refine bnext ?_ (by assumption))))),λ j hj=>absurd hj (by omega),(by(repeat (first | exact alloc_new_at _ (by repeat (first | rfl | refine alloc_size _ ?_)) | refine block_alloc ?_ _))),(by(repeat (first | exact alloc_new_at _ (by repeat (first | rfl | refine alloc_size _ ?_)) | refine block_alloc ?_ _)))⟩
 case round=>
  obtain⟨k,hk,rfl,hd,hn,hB0,hB1⟩:=hrel
  have hlt:=hk
  obtain⟨b,off,rfl,⟨c0,c1,c2,c3⟩⟩:=HC.out.below hd k hlt
  have b0:(k:Int)<len l:=by omega
  have b1:k<len l:=by omega
  obtain⟨z,hz⟩:∃z,z=byte s 0:=⟨_,rfl⟩
  have hz':(s[0].toNat:Int)=z:=by rw[hz];exact byte0 s hs0
  have o1:=HO.out k;have z0:0≤z:=by rw[hz];unfold byte;omega
  have z1:z≤255:=by rw[hz];unfold byte;have:=UInt8.toNat_lt (s.data.toList.getD 0 0);omega
  have HZ:=Lib.hid hz;have sz:w.heap.size+1<wr.heap.size:=lt_of_block hB1.out
  go_wp2_with fail
  obtain⟨W,hW⟩:∃W,wr.alloc (.cells #[.int .u8 (unth l k).lo,.int .u8 (unth l k).hi,.int .i64 (unth l k).size,.int .u64 (unth l k).least] 342)=W:=⟨_,rfl⟩
  have HB0:=Lib.hid (block_alloc hB0.out (.cells #[.int .u8 (unth l k).lo,.int .u8 (unth l k).hi,.int .i64 (unth l k).size,.int .u64 (unth l k).least] 342));have HB1:=Lib.hid (block_alloc hB1.out (.cells #[.int .u8 (unth l k).lo,.int .u8 (unth l k).hi,.int .i64 (unth l k).size,.int .u64 (unth l k).least] 342));have HBN:=Lib.hid (heap_alloc_new wr (.cells #[.int .u8 (unth l k).lo,.int .u8 (unth l k).hi,.int .i64 (unth l k).size,.int .u64 (unth l k).least] 342));have HD:=Lib.hid (balloc hd (.cells #[.int .u8 (unth l k).lo,.int .u8 (unth l k).hi,.int .i64 (unth l k).size,.int .u64 (unth l k).least] 342))
  rw[hW]at HB0 HB1 HBN HD ⊢
  have q0:W.cell? ⟨wr.heap.size,0,none⟩=some (.int .u8 (unth l k).lo):=block_cell HBN.out 0;have q1:W.cell? ⟨wr.heap.size,1,none⟩=some (.int .u8 (unth l k).hi):=block_cell HBN.out 1;clear hW hd hz hB0 hB1 c0 c1 c2 c3
  by_cases m1:(unth l k).lo≤z
  ·have M1:decide ((unth l k).lo≤z)=true:=by simpa using m1
   by_cases m2:z≤(unth l k).hi
   ·obtain⟨x2,hx2⟩:∃x2,x2=true:=⟨_,rfl⟩
    have M2:decide (z≤(unth l k).hi)=x2:=by rw[hx2];simpa using m2
    refine wp_region_all 1000 (none) (phis (List.map qv [.string s,.int .u8 z,.pointer (some ⟨wr.heap.size,0,none⟩),.int .u8 (unth l k).lo,.bool true,.bool true,.string s,.int .u8 z,.pointer (some ⟨wr.heap.size,1,none⟩),.int .u8 (unth l k).hi,.bool x2,.bool x2,.bool x2])) rfl (by kernel_rfl) (mono_of mono_qv) (steps_of 13 ⟨?s0,?s1,?s2,?s3,?s4,?s5,?s6,?s7,?s8,?s9,?s10,?s11,?s12,trivial⟩) ?_
    case s0=>
     refine qV (λ _=>rfl) rfl λ av wv hE hO hD=>?_
     simp[go_sem,qF av 0 (.string s) (hO.2.2 0 rfl),hz',hs0,M1,M2]
    case s1=>
     refine qV (λ _=>rfl) rfl λ av wv hE hO hD=>?_
     simp[go_sem,qE (hD.1 rfl _ rfl),hz',hs0,M1,M2]
    case s2=>
     refine qV (λ _=>rfl) rfl λ av wv hE hO hD=>?_
     simp[go_sem,qF av 7 (.pointer (some ⟨wr.heap.size,0,none⟩)) (hO.2.2 7 rfl),hz',hs0,M1,M2]
    case s3=>
     refine qV (λ _=>rfl) rfl λ av wv hE hO hD=>?_
     simp[go_sem,qE (hD.1 rfl _ rfl),extB_cell hE (by simp) q0,extB_cell hE (by simp) q1,hz',hs0,M1,M2]
    case s4=>
     refine qV (λ _=>rfl) rfl λ av wv hE hO hD=>?_
     simp[go_sem,qE (hD.1 rfl _ rfl),qE (hD.2.1 rfl _ rfl),hz',hs0,M1,M2]
    case s5=>
     refine qV (λ _=>rfl) rfl λ av wv hE hO hD=>?_
     simp[go_sem,qE (hD.1 rfl _ rfl),hz',hs0,M1,M2]
    case s6=>
     refine step_val (λ av wv hE hS hO hD=>⟨(wY rfl rfl rfl (hD.1 rfl _ rfl)),?_⟩) (λ _=>rfl)
     simp[go_sem,qF av 0 (.string s) (hO.2.2 0 rfl),qE (hD.1 rfl _ rfl),hz',hs0,M1,M2]
    case s7=>
     refine step_val (λ av wv hE hS hO hD=>⟨(wY rfl rfl rfl (hD.2.1 rfl _ rfl)),?_⟩) (λ _=>rfl)
     simp[go_sem,qE (hD.1 rfl _ rfl),qE (hD.2.1 rfl _ rfl),hz',hs0,M1,M2]
    case s8=>
     refine step_val (λ av wv hE hS hO hD=>⟨(wY rfl rfl rfl (hD.1 rfl _ rfl)),?_⟩) (λ _=>rfl)
     simp[go_sem,qF av 7 (.pointer (some ⟨wr.heap.size,0,none⟩)) (hO.2.2 7 rfl),qE (hD.1 rfl _ rfl),hz',hs0,M1,M2]
    case s9=>
     refine step_val (λ av wv hE hS hO hD=>⟨(wY rfl rfl rfl (hD.2.1 rfl _ rfl)),?_⟩) (λ _=>rfl)
     simp[go_sem,qE (hD.1 rfl _ rfl),qE (hD.2.1 rfl _ rfl),extB_cell hE (by simp) q0,extB_cell hE (by simp) q1,hz',hs0,M1,M2]
    case s10=>
     refine step_val (λ av wv hE hS hO hD=>⟨(wY rfl rfl rfl (hD.2.2.1 rfl _ rfl)),?_⟩) (λ _=>rfl)
     simp[go_sem,qE (hD.1 rfl _ rfl),qE (hD.2.1 rfl _ rfl),qE (hD.2.2.1 rfl _ rfl),hz',hs0,M1,M2]
    case s11=>
     refine qV (λ _=>rfl) rfl λ av wv hE hO hD=>?_
     simp[go_sem,qE (hD.1 rfl _ rfl),qE (hD.2.1 rfl _ rfl),hz',hs0,M1,M2]
    case s12=>
     refine qV (λ _=>rfl) rfl λ av wv hE hO hD=>?_
     simp[go_sem,qE (hD.1 rfl _ rfl),hz',hs0,M1,M2]
    intro a' w' hE hO hall
    have hA:=act_of_outer (ds:=[22,23,24,25,26,27,28,29,30,31,32,33,21]) rfl hO (by kernel_rfl)
    obtain⟨j0,j1,j2,j3,j4,j5,j6,j7,j8,j9,j10,j11,j12,-⟩:=hall
    simp only[List.foldl_cons,List.foldl_nil,Act.put,List.setIfInBounds_toArray,List.set_cons_succ,List.set_cons_zero,qJ 22 (j0 _ rfl),qJ 23 (j1 _ rfl),qJ 24 (j2 _ rfl),qJ 25 (j3 _ rfl),qJ 26 (j4 _ rfl),qJ 27 (j5 _ rfl),qJ 28 (j6 _ rfl),qJ 29 (j7 _ rfl),qJ 30 (j8 _ rfl),qJ 31 (j9 _ rfl),qJ 32 (j10 _ rfl),qJ 33 (j11 _ rfl),qJ 21 (j12 _ rfl)]at hA
    clear hO j0 j1 j2 j3 j4 j5 j6 j7 j8 j9 j10 j11 j12
    subst hA
    have F:Hid (l.find? (λ r=>decide (r.lo≤byte s 0) && decide (byte s 0≤r.hi))=some (unth l k)):=Lib.hid (head_find b1 hn.out (by rw[←HZ.out];exact⟨m1,m2⟩))
    subst hx2
    have B7:=Lib.hid (bnext HD.out (of_drew hE));have X0:=Lib.hid (extB_block hE (by simp) HB0.out);have X1:=Lib.hid (extB_block hE (by simp) HB1.out);have XN:=Lib.hid (extB_block hE (by simp) HBN.out);clear hE hn M1 M2 m2 q0 q1
    obtain⟨r,hr⟩:∃r,unth l k=r:=⟨_,rfl⟩
    rw[hr]at XN F o1 m1
    have FR:=Lib.hid (head_row hs0 F.out);have p0:w'.cell? ⟨wr.heap.size,0,none⟩=some (.int .u8 r.lo):=block_cell XN.out 0;have p1:w'.cell? ⟨wr.heap.size,1,none⟩=some (.int .u8 r.hi):=block_cell XN.out 1;have p2:w'.cell? ⟨wr.heap.size,2,none⟩=some (.int .i64 r.size):=block_cell XN.out 2;have p3:w'.cell? ⟨wr.heap.size,3,none⟩=some (.int .u64 r.least):=block_cell XN.out 3;have x0:=block_cell X1.out;have x1:=block_free X1.out;clear hr
    go_upto_region 12 with fail
    obtain⟨V,hV⟩:∃V,(((w'.setCell ⟨w.heap.size+1,0,none⟩ (.int .u8 r.lo)).setCell ⟨w.heap.size+1,1,none⟩ (.int .u8 r.hi)).setCell ⟨w.heap.size+1,2,none⟩ (.int .i64 r.size)).setCell ⟨w.heap.size+1,3,none⟩ (.int .u64 r.least)=V:=⟨_,rfl⟩
    have VB:Hid (Below w.heap.size w V):=Lib.hid (by rw[←hV];exact bset (bset (bset (bset B7.out (by simp) _) (by simp) _) (by simp) _) (by simp) _);have V0:Hid (V.heap[w.heap.size]?=some (.cells #[.int .u64 0,.string ⟨#[]⟩] 306 (0,0))):=Lib.hid (by
     rw[←hV];exact block_setCell_ne (block_setCell_ne (block_setCell_ne (block_setCell_ne X0.out (by simp) _) (by simp) _) (by simp) _) (by simp) _)
    have V1:V.heap[w.heap.size+1]?=some (.cells #[.int .u8 r.lo,.int .u8 r.hi,.int .i64 r.size,.int .u64 r.least] 342 (0,0)):=by
     rw[←hV];exact block_setCell (block_setCell (block_setCell (block_setCell X1.out _) _) _) _
    rw[hV]
    have v0:V.cell? ⟨w.heap.size+1,0,none⟩=some (.int .u8 r.lo):=block_cell V1 0;have v2:V.cell? ⟨w.heap.size+1,2,none⟩=some (.int .i64 r.size):=block_cell V1 2;have v3:V.cell? ⟨w.heap.size+1,3,none⟩=some (.int .u64 r.least):=block_cell V1 3;have HV1:=Lib.hid V1;clear hV V1 p0 p1 p2 p3 x0 x1 HB0 HB1 HBN X0 X1 XN B7 HD HC hlt b0 b1 hk;have k1:=o1.sz0;have k2:=o1.sz1;have k3:=o1.lo0;have i1:IntKind.i64.wrap (1+r.size)=1+r.size:=IntWalk.i64_in _ (by omega)
    by_cases c1:(s.size:Int)<1+r.size
    ·have E:Hid (headOf s l=.error 4):=Lib.hid (by rw[FR.out,if_pos c1])
     go_wp2_with fail
     refine(stop_any 4 _).mono ?_
     rintro e w1 ⟨rfl,rfl⟩
     go_wp2
     rw[E.out]
     exact⟨rfl,VB.out,rfl⟩
    ·have i2:IntKind.u8.wrap (z - r.lo)=z - r.lo:=IntWalk.u8_in _ (by omega)
     have i3:IntKind.u64.wrap (z - r.lo)=z - r.lo:=IntWalk.u64_in _ (by omega)
     obtain⟨q,hq⟩:∃q:Nat,r.size=q:=⟨r.size.toNat,by omega⟩
     by_cases c2:r.size=0
     ·have c2':(r.size == 0)=true:=by simpa using c2
      have HQ:=Lib.hid hq;have C2:=Lib.hid c2;clear hq c2
      go_upto_region 16 with fail
      refine wp_region_all 1000 (none) (phis (List.map qv [.string s,.int .u8 z,.pointer (some ⟨w.heap.size+1,0,none⟩),.int .u8 r.lo,.int .u8 (z - r.lo),.int .u64 (z - r.lo),.int .u64 (z - r.lo)])) rfl (by kernel_rfl) (mono_of mono_qv) (steps_of 7 ⟨?s0,?s1,?s2,?s3,?s4,?s5,?s6,trivial⟩) ?_
      case s0=>
       refine qV (λ _=>rfl) rfl λ av wv hE hO hD=>?_
       simp[go_sem,qF av 0 (.string s) (hO.2.2 0 rfl),hz',hs0,i2,i3]
      case s1=>
       refine qV (λ _=>rfl) rfl λ av wv hE hO hD=>?_
       simp[go_sem,qE (hD.1 rfl _ rfl),hz',hs0,i2,i3]
      case s2=>
       refine qV (λ _=>rfl) rfl λ av wv hE hO hD=>?_
       simp[go_sem,qF av 5 (.pointer (some ⟨w.heap.size+1,0,none⟩)) (hO.2.2 5 rfl),hz',hs0,i2,i3]
      case s3=>
       refine qV (λ _=>rfl) rfl λ av wv hE hO hD=>?_
       simp[go_sem,qE (hD.1 rfl _ rfl),extB_cell hE (by simp) v0,hz',hs0,i2,i3]
      case s4=>
       refine qV (λ _=>rfl) rfl λ av wv hE hO hD=>?_
       simp[go_sem,qE (hD.1 rfl _ rfl),qE (hD.2.1 rfl _ rfl),hz',hs0,i2,i3]
      case s5=>
       refine qV (λ _=>rfl) rfl λ av wv hE hO hD=>?_
       simp[go_sem,qE (hD.1 rfl _ rfl),hz',hs0,i2,i3]
      case s6=>
       refine qV (λ _=>rfl) rfl λ av wv hE hO hD=>?_
       simp[go_sem,qE (hD.1 rfl _ rfl),hz',hs0,i2,i3]
      intro a' w' hE hO hall
      have hA:=act_of_outer (ds:=[53,54,55,56,57,58,8]) rfl hO (by kernel_rfl)
      obtain⟨j0,j1,j2,j3,j4,j5,j6,-⟩:=hall
      simp only[List.foldl_cons,List.foldl_nil,Act.put,List.setIfInBounds_toArray,List.set_cons_succ,List.set_cons_zero,qJ 53 (j0 _ rfl),qJ 54 (j1 _ rfl),qJ 55 (j2 _ rfl),qJ 56 (j3 _ rfl),qJ 57 (j4 _ rfl),qJ 58 (j5 _ rfl),qJ 8 (j6 _ rfl)]at hA
      clear hO j0 j1 j2 j3 j4 j5 j6
      subst hA
      have VB2:=Lib.hid (bnext VB.out (of_drew hE));have V12:=Lib.hid (extB_block hE (by simp) HV1.out);have V02:=Lib.hid (extB_block hE (by simp) V0.out);have v2:w'.cell? ⟨w.heap.size+1,2,none⟩=some (.int .i64 r.size):=block_cell V12.out 2;clear hE VB V0 HV1 v0 v3 i2 i3
      go_upto_region 17 with fail
      have qs:1+q≤s.size:=by have:=HQ.out;omega
      have hxs:(s.extract 1 (1+q)).size=q:=ext_size s qs
      obtain⟨bc,Y,hcv,hY1,hY2,hY3⟩:=conv_bytes w' (s.extract 1 (1+q))
      rw[hxs]at hcv hY3
      have HY3:Hid (∀j,j<q→Y.cell? ⟨(World.heap w').size,j,none⟩=some (.int .u8 (byte s (1+j)))):=Lib.hid (λ j hj=>by rw[hY3 j hj,ext_byte s qs hj]);have YB:=Lib.hid (bnext VB2.out hY1);have Y1:=Lib.hid ((hY1.block _ (lt_of_block V12.out)).trans V12.out);have Y0:=Lib.hid ((hY1.block _ (lt_of_block V02.out)).trans V02.out);have YS:w.heap.size+1<Y.heap.size:=lt_of_block Y1.out;clear hY1 hY2 hY3 hxs;have i5:(1+r.size).toNat=1+q:=by have:=HQ.out;omega
      have i6:r.size.toNat=q:=by have:=HQ.out;omega
      have q8:q≤8:=by have:=HQ.out;omega
      have j1:1≤(s.size:Int):=by omega
      have j2:1+r.size≤(s.size:Int):=by omega
      have j3:1≤1+r.size:=by omega
      go_wp2_with fail
      clear hcv
      go_loopg [8,66] q (λ g n i wx=>∃j:Nat,g+j=q∧i=.int .i64 j∧n=.int .u64 (numAt s r j)∧wx=Y)
      case atStart=>exact⟨0,rfl,rfl,(by unfold numAt;rw[if_pos C2.out,←HZ.out]),rfl⟩
      case round=>
       obtain⟨j,hj,rfl,rfl,rfl⟩:=hrel
       have vb:=numAt_bd (s:=s) (r:=r) (j:=j) (by have:=HQ.out;omega) o1 (by rw[←HZ.out];exact m1)
       by_cases hjq:j<q
       ·have b0:(j:Int)<q:=by omega
        have cc:=HY3.out j hjq;have vs:=Lib.hid (numAt_succ s r j (by have:=HQ.out;omega));have cb:=byte_bd s (1+j);have vb2:=numAt_lt (s:=s) (r:=r) (j:=j) (by omega) o1 (by rw[←HZ.out];exact m1)
        obtain⟨c,hc⟩:∃c,byte s (1+j)=c:=⟨_,rfl⟩
        obtain⟨v,hv⟩:∃v,numAt s r j=v:=⟨_,rfl⟩
        rw[hc]at cc cb
        rw[hv]at vb vb2
        have hor:=shl_or v c vb.1 vb2 cb.1 cb.2
        go_wp2
        go_roundg (gk - 1)
        case rel=>exact⟨j+1,by omega,by go_num,(by rw[vs.out,hv,hc,←hor]),rfl⟩
        case measure=>omega
       ·obtain rfl:j=q:=by omega
        have E0:headOf s l=if numAt s r j<r.least then .error 5 else .ok (numAt s r j,s.extract (1+j) s.size):=by
         rw[FR.out,if_neg (by omega),i6];rfl
        obtain⟨v,hv⟩:∃v,numAt s r j=v:=⟨_,rfl⟩
        rw[hv]at vb E0 ⊢
        have g2:wr.cell? ⟨w.heap.size+1,2,none⟩=some (.int .i64 r.size):=block_cell Y1.out 2;have g3:wr.cell? ⟨w.heap.size+1,3,none⟩=some (.int .u64 r.least):=block_cell Y1.out 3;have y0:∀o,wr.cell? ⟨w.heap.size,o,none⟩=_:=block_cell Y0.out;have y1:∀o,wr.frozen? ⟨w.heap.size,o,none⟩=false:=block_free Y0.out;clear hv
        by_cases hv:v<r.least
        ·have E:Hid (headOf s l=.error 5):=Lib.hid (by rw[E0,if_pos hv])
         clear E0
         go_wp2_with fail
         refine(stop_any 5 _).mono ?_
         rintro e w1 ⟨rfl,rfl⟩
         go_wp2
         rw[E.out]
         exact⟨rfl,YB.out,rfl⟩
        ·have E:Hid (headOf s l=.ok (v,s.extract (1+j) s.size)):=Lib.hid (by rw[E0,if_neg hv])
         clear E0
         go_wp2_with fail
         try rw[Exit.noGoto_ret]
         refine bodyPost_ret (v:=.agg #[.int .u64 v,.string (s.extract (1+j) s.size)]) (by simp[results,Tryz.results265,go_sem,y0]) rfl ?_
         rw[E.out]
         exact⟨(by have:=YB.out;(repeat (first | exact Below.refl _ _ | assumption | (refine bdrew ?_) | (refine bdrewN ?_ _) | (refine balloc ?_ _) | (refine bset ?_ (by first | omega | (simp;done) | (simp;omega)) _) | (refine bnext ?_ (by assumption))))),rfl⟩
     ·have c2':(r.size == 0)=false:=by simpa using c2
      have HQ:=Lib.hid hq;have C2:=Lib.hid c2;clear hq c2;have qs:1+q≤s.size:=by have:=HQ.out;omega
      have hxs:(s.extract 1 (1+q)).size=q:=ext_size s qs
      obtain⟨bc,Y,hcv,hY1,hY2,hY3⟩:=conv_bytes V (s.extract 1 (1+q))
      rw[hxs]at hcv hY3
      have HY3:Hid (∀j,j<q→Y.cell? ⟨(World.heap V).size,j,none⟩=some (.int .u8 (byte s (1+j)))):=Lib.hid (λ j hj=>by rw[hY3 j hj,ext_byte s qs hj]);have YB:=Lib.hid (bnext VB.out hY1);have Y1:=Lib.hid ((hY1.block _ (lt_of_block HV1.out)).trans HV1.out);have Y0:=Lib.hid ((hY1.block _ (lt_of_block V0.out)).trans V0.out);have YS:w.heap.size+1<Y.heap.size:=lt_of_block Y1.out;clear hY1 hY2 hY3 hxs;have i5:(1+r.size).toNat=1+q:=by have:=HQ.out;omega
      have i6:r.size.toNat=q:=by have:=HQ.out;omega
      have q8:q≤8:=by have:=HQ.out;omega
      have j1:1≤(s.size:Int):=by omega
      have j2:1+r.size≤(s.size:Int):=by omega
      have j3:1≤1+r.size:=by omega
      go_wp2_with fail
      clear hcv
      go_loopg [8,66] q (λ g n i wx=>∃j:Nat,g+j=q∧i=.int .i64 j∧n=.int .u64 (numAt s r j)∧wx=Y)
      case atStart=>exact⟨0,rfl,rfl,(by unfold numAt;rw[if_neg C2.out];rfl),rfl⟩
      case round=>
       obtain⟨j,hj,rfl,rfl,rfl⟩:=hrel
       have vb:=numAt_bd (s:=s) (r:=r) (j:=j) (by have:=HQ.out;omega) o1 (by rw[←HZ.out];exact m1)
       by_cases hjq:j<q
       ·have b0:(j:Int)<q:=by omega
        have cc:=HY3.out j hjq;have vs:=Lib.hid (numAt_succ s r j (by have:=HQ.out;omega));have cb:=byte_bd s (1+j);have vb2:=numAt_lt (s:=s) (r:=r) (j:=j) (by omega) o1 (by rw[←HZ.out];exact m1)
        obtain⟨c,hc⟩:∃c,byte s (1+j)=c:=⟨_,rfl⟩
        obtain⟨v,hv⟩:∃v,numAt s r j=v:=⟨_,rfl⟩
        rw[hc]at cc cb
        rw[hv]at vb vb2
        have hor:=shl_or v c vb.1 vb2 cb.1 cb.2
        go_wp2
        go_roundg (gk - 1)
        case rel=>exact⟨j+1,by omega,by go_num,(by rw[vs.out,hv,hc,←hor]),rfl⟩
        case measure=>omega
       ·obtain rfl:j=q:=by omega
        have E0:headOf s l=if numAt s r j<r.least then .error 5 else .ok (numAt s r j,s.extract (1+j) s.size):=by
         rw[FR.out,if_neg (by omega),i6];rfl
        obtain⟨v,hv⟩:∃v,numAt s r j=v:=⟨_,rfl⟩
        rw[hv]at vb E0 ⊢
        have g2:wr.cell? ⟨w.heap.size+1,2,none⟩=some (.int .i64 r.size):=block_cell Y1.out 2;have g3:wr.cell? ⟨w.heap.size+1,3,none⟩=some (.int .u64 r.least):=block_cell Y1.out 3;have y0:∀o,wr.cell? ⟨w.heap.size,o,none⟩=_:=block_cell Y0.out;have y1:∀o,wr.frozen? ⟨w.heap.size,o,none⟩=false:=block_free Y0.out;clear hv
        by_cases hv:v<r.least
        ·have E:Hid (headOf s l=.error 5):=Lib.hid (by rw[E0,if_pos hv])
         clear E0
         go_wp2_with fail
         refine(stop_any 5 _).mono ?_
         rintro e w1 ⟨rfl,rfl⟩
         go_wp2
         rw[E.out]
         exact⟨rfl,YB.out,rfl⟩
        ·have E:Hid (headOf s l=.ok (v,s.extract (1+j) s.size)):=Lib.hid (by rw[E0,if_neg hv])
         clear E0
         go_wp2_with fail
         try rw[Exit.noGoto_ret]
         refine bodyPost_ret (v:=.agg #[.int .u64 v,.string (s.extract (1+j) s.size)]) (by simp[results,Tryz.results265,go_sem,y0]) rfl ?_
         rw[E.out]
         exact⟨(by have:=YB.out;(repeat (first | exact Below.refl _ _ | assumption | (refine bdrew ?_) | (refine bdrewN ?_ _) | (refine balloc ?_ _) | (refine bset ?_ (by first | omega | (simp;done) | (simp;omega)) _) | (refine bnext ?_ (by assumption))))),rfl⟩
   ·obtain⟨x2,hx2⟩:∃x2,x2=false:=⟨_,rfl⟩
    have M2:decide (z≤(unth l k).hi)=x2:=by rw[hx2];simpa using m2
    refine wp_region_all 1000 (none) (phis (List.map qv [.string s,.int .u8 z,.pointer (some ⟨wr.heap.size,0,none⟩),.int .u8 (unth l k).lo,.bool true,.bool true,.string s,.int .u8 z,.pointer (some ⟨wr.heap.size,1,none⟩),.int .u8 (unth l k).hi,.bool x2,.bool x2,.bool x2])) rfl (by kernel_rfl) (mono_of mono_qv) (steps_of 13 ⟨?s0,?s1,?s2,?s3,?s4,?s5,?s6,?s7,?s8,?s9,?s10,?s11,?s12,trivial⟩) ?_
    case s0=>
     refine qV (λ _=>rfl) rfl λ av wv hE hO hD=>?_
     simp[go_sem,qF av 0 (.string s) (hO.2.2 0 rfl),hz',hs0,M1,M2]
    case s1=>
     refine qV (λ _=>rfl) rfl λ av wv hE hO hD=>?_
     simp[go_sem,qE (hD.1 rfl _ rfl),hz',hs0,M1,M2]
    case s2=>
     refine qV (λ _=>rfl) rfl λ av wv hE hO hD=>?_
     simp[go_sem,qF av 7 (.pointer (some ⟨wr.heap.size,0,none⟩)) (hO.2.2 7 rfl),hz',hs0,M1,M2]
    case s3=>
     refine qV (λ _=>rfl) rfl λ av wv hE hO hD=>?_
     simp[go_sem,qE (hD.1 rfl _ rfl),extB_cell hE (by simp) q0,extB_cell hE (by simp) q1,hz',hs0,M1,M2]
    case s4=>
     refine qV (λ _=>rfl) rfl λ av wv hE hO hD=>?_
     simp[go_sem,qE (hD.1 rfl _ rfl),qE (hD.2.1 rfl _ rfl),hz',hs0,M1,M2]
    case s5=>
     refine qV (λ _=>rfl) rfl λ av wv hE hO hD=>?_
     simp[go_sem,qE (hD.1 rfl _ rfl),hz',hs0,M1,M2]
    case s6=>
     refine step_val (λ av wv hE hS hO hD=>⟨(wY rfl rfl rfl (hD.1 rfl _ rfl)),?_⟩) (λ _=>rfl)
     simp[go_sem,qF av 0 (.string s) (hO.2.2 0 rfl),qE (hD.1 rfl _ rfl),hz',hs0,M1,M2]
    case s7=>
     refine step_val (λ av wv hE hS hO hD=>⟨(wY rfl rfl rfl (hD.2.1 rfl _ rfl)),?_⟩) (λ _=>rfl)
     simp[go_sem,qE (hD.1 rfl _ rfl),qE (hD.2.1 rfl _ rfl),hz',hs0,M1,M2]
    case s8=>
     refine step_val (λ av wv hE hS hO hD=>⟨(wY rfl rfl rfl (hD.1 rfl _ rfl)),?_⟩) (λ _=>rfl)
     simp[go_sem,qF av 7 (.pointer (some ⟨wr.heap.size,0,none⟩)) (hO.2.2 7 rfl),qE (hD.1 rfl _ rfl),hz',hs0,M1,M2]
    case s9=>
     refine step_val (λ av wv hE hS hO hD=>⟨(wY rfl rfl rfl (hD.2.1 rfl _ rfl)),?_⟩) (λ _=>rfl)
     simp[go_sem,qE (hD.1 rfl _ rfl),qE (hD.2.1 rfl _ rfl),extB_cell hE (by simp) q0,extB_cell hE (by simp) q1,hz',hs0,M1,M2]
    case s10=>
     refine step_val (λ av wv hE hS hO hD=>⟨(wY rfl rfl rfl (hD.2.2.1 rfl _ rfl)),?_⟩) (λ _=>rfl)
     simp[go_sem,qE (hD.1 rfl _ rfl),qE (hD.2.1 rfl _ rfl),qE (hD.2.2.1 rfl _ rfl),hz',hs0,M1,M2]
    case s11=>
     refine qV (λ _=>rfl) rfl λ av wv hE hO hD=>?_
     simp[go_sem,qE (hD.1 rfl _ rfl),qE (hD.2.1 rfl _ rfl),hz',hs0,M1,M2]
    case s12=>
     refine qV (λ _=>rfl) rfl λ av wv hE hO hD=>?_
     simp[go_sem,qE (hD.1 rfl _ rfl),hz',hs0,M1,M2]
    intro a' w' hE hO hall
    have hA:=act_of_outer (ds:=[22,23,24,25,26,27,28,29,30,31,32,33,21]) rfl hO (by kernel_rfl)
    obtain⟨j0,j1,j2,j3,j4,j5,j6,j7,j8,j9,j10,j11,j12,-⟩:=hall
    simp only[List.foldl_cons,List.foldl_nil,Act.put,List.setIfInBounds_toArray,List.set_cons_succ,List.set_cons_zero,qJ 22 (j0 _ rfl),qJ 23 (j1 _ rfl),qJ 24 (j2 _ rfl),qJ 25 (j3 _ rfl),qJ 26 (j4 _ rfl),qJ 27 (j5 _ rfl),qJ 28 (j6 _ rfl),qJ 29 (j7 _ rfl),qJ 30 (j8 _ rfl),qJ 31 (j9 _ rfl),qJ 32 (j10 _ rfl),qJ 33 (j11 _ rfl),qJ 21 (j12 _ rfl)]at hA
    clear hO j0 j1 j2 j3 j4 j5 j6 j7 j8 j9 j10 j11 j12
    subst hA
    have NM:Hid (¬((unth l k).lo≤byte s 0∧byte s 0≤(unth l k).hi)):=Lib.hid (by rw[←HZ.out];exact λ h=>m2 h.2)
    subst hx2
    clear M1 M2 m1 m2 q0 q1;have B7:=Lib.hid (bnext HD.out (of_drew hE));have X0:=Lib.hid (extB_block hE (by simp) HB0.out);have X1:=Lib.hid (extB_block hE (by simp) HB1.out);clear hE
    by_cases hlast:k+1=len l
    ·have e1:((k:Int) == (len l:Int) - 1)=true:=by simp;omega
     have e2:IntKind.i64.wrap ((len l:Int) - 1)=(len l:Int) - 1:=IntWalk.i64_in _ (by omega);have E:Hid (headOf s l=.error 5):=Lib.hid (head_none (by omega) (λ j hj=>by
      by_cases e:j=k
      ·subst e;exact NM.out
      ·exact hn.out j (by omega)))
     go_wp2_with fail
     refine(stop_any 5 _).mono ?_
     rintro e w1 ⟨rfl,rfl⟩
     go_wp2
     rw[E.out]
     exact⟨rfl,B7.out,rfl⟩
    ·have e1:((k:Int) == (len l:Int) - 1)=false:=by simp;omega
     have e2:IntKind.i64.wrap ((len l:Int) - 1)=(len l:Int) - 1:=IntWalk.i64_in _ (by omega)
     go_wp2
     go_roundw
     case rel=>exact⟨k+1,by omega,by go_num,B7.out,(λ j hj=>by
      by_cases e:j=k
      ·subst e;exact NM.out
      ·exact hn.out j (by omega)),X0.out,X1.out⟩
     case measure=>simp[intOf];omega
  ·have M1:decide ((unth l k).lo≤z)=false:=by simpa using m1
   refine wp_region_all 1000 (none) (phis (List.map qv [.string s,.int .u8 z,.pointer (some ⟨wr.heap.size,0,none⟩),.int .u8 (unth l k).lo,.bool false,.bool false,undef,undef,undef,undef,undef,.bool false,.bool false])) rfl (by kernel_rfl) (mono_of mono_qv) (steps_of 13 ⟨?s0,?s1,?s2,?s3,?s4,?s5,qS (λ av wv hD=>(wN rfl rfl rfl (hD.1 rfl _ rfl) rfl)) (λ _=>rfl),qS (λ av wv hD=>(wN rfl rfl rfl (hD.2.1 rfl _ rfl) rfl)) (λ _=>rfl),qS (λ av wv hD=>(wN rfl rfl rfl (hD.1 rfl _ rfl) rfl)) (λ _=>rfl),qS (λ av wv hD=>(wN rfl rfl rfl (hD.2.1 rfl _ rfl) rfl)) (λ _=>rfl),qS (λ av wv hD=>(wN rfl rfl rfl (hD.2.2.1 rfl _ rfl) rfl)) (λ _=>rfl),?s11,?s12,trivial⟩) ?_
   case s0=>
    refine qV (λ _=>rfl) rfl λ av wv hE hO hD=>?_
    simp[go_sem,qF av 0 (.string s) (hO.2.2 0 rfl),hz',hs0,M1]
   case s1=>
    refine qV (λ _=>rfl) rfl λ av wv hE hO hD=>?_
    simp[go_sem,qE (hD.1 rfl _ rfl),hz',hs0,M1]
   case s2=>
    refine qV (λ _=>rfl) rfl λ av wv hE hO hD=>?_
    simp[go_sem,qF av 7 (.pointer (some ⟨wr.heap.size,0,none⟩)) (hO.2.2 7 rfl),hz',hs0,M1]
   case s3=>
    refine qV (λ _=>rfl) rfl λ av wv hE hO hD=>?_
    simp[go_sem,qE (hD.1 rfl _ rfl),extB_cell hE (by simp) q0,extB_cell hE (by simp) q1,hz',hs0,M1]
   case s4=>
    refine qV (λ _=>rfl) rfl λ av wv hE hO hD=>?_
    simp[go_sem,qE (hD.1 rfl _ rfl),qE (hD.2.1 rfl _ rfl),hz',hs0,M1]
   case s5=>
    refine qV (λ _=>rfl) rfl λ av wv hE hO hD=>?_
    simp[go_sem,qE (hD.1 rfl _ rfl),hz',hs0,M1]
   case s11=>
    refine qV (λ _=>rfl) rfl λ av wv hE hO hD=>?_
    simp[go_sem,qE (hD.1 rfl _ rfl),qE (hD.2.1 rfl _ rfl),hz',hs0,M1]
   case s12=>
    refine qV (λ _=>rfl) rfl λ av wv hE hO hD=>?_
    simp[go_sem,qE (hD.1 rfl _ rfl),hz',hs0,M1]
   intro a' w' hE hO hall
   have hA:=act_of_outer (ds:=[22,23,24,25,26,27,28,29,30,31,32,33,21]) rfl hO (by kernel_rfl)
   obtain⟨j0,j1,j2,j3,j4,j5,j6,j7,j8,j9,j10,j11,j12,-⟩:=hall
   simp only[List.foldl_cons,List.foldl_nil,Act.put,List.setIfInBounds_toArray,List.set_cons_succ,List.set_cons_zero,qJ 22 (j0 _ rfl),qJ 23 (j1 _ rfl),qJ 24 (j2 _ rfl),qJ 25 (j3 _ rfl),qJ 26 (j4 _ rfl),qJ 27 (j5 _ rfl),qJ 28 (j6 _ rfl),qJ 29 (j7 _ rfl),qJ 30 (j8 _ rfl),qJ 31 (j9 _ rfl),qJ 32 (j10 _ rfl),qJ 33 (j11 _ rfl),qJ 21 (j12 _ rfl)]at hA
   clear hO j0 j1 j2 j3 j4 j5 j6 j7 j8 j9 j10 j11 j12
   subst hA
   have NM:Hid (¬((unth l k).lo≤byte s 0∧byte s 0≤(unth l k).hi)):=Lib.hid (by rw[←HZ.out];exact λ h=>m1 h.1);clear M1 m1 q0 q1;have B7:=Lib.hid (bnext HD.out (of_drew hE));have X0:=Lib.hid (extB_block hE (by simp) HB0.out);have X1:=Lib.hid (extB_block hE (by simp) HB1.out);clear hE
   by_cases hlast:k+1=len l
   ·have e1:((k:Int) == (len l:Int) - 1)=true:=by simp;omega
    have e2:IntKind.i64.wrap ((len l:Int) - 1)=(len l:Int) - 1:=IntWalk.i64_in _ (by omega);have E:Hid (headOf s l=.error 5):=Lib.hid (head_none (by omega) (λ j hj=>by
     by_cases e:j=k
     ·subst e;exact NM.out
     ·exact hn.out j (by omega)))
    go_wp2_with fail
    refine(stop_any 5 _).mono ?_
    rintro e w1 ⟨rfl,rfl⟩
    go_wp2
    rw[E.out]
    exact⟨rfl,B7.out,rfl⟩
   ·have e1:((k:Int) == (len l:Int) - 1)=false:=by simp;omega
    have e2:IntKind.i64.wrap ((len l:Int) - 1)=(len l:Int) - 1:=IntWalk.i64_in _ (by omega)
    go_wp2
    go_roundw
    case rel=>exact⟨k+1,by omega,by go_num,B7.out,(λ j hj=>by
     by_cases e:j=k
     ·subst e;exact NM.out
     ·exact hn.out j (by omega)),X0.out,X1.out⟩
    case measure=>simp[intOf];omega
end Go.Proofs.YtpobhbdomldecaaGreatDoor
namespace Go.Proofs.YtpobhbdomldecaaGreatDoor
set_option linter.unusedSimpArgs false
set_option linter.unusedVariables false
open Go.RowKit
def RdB(w:World)(b:Nat)(s:ByteArray)(a most:Int):Prop:=w.heap[b]?=some (.cells #[.string s,.int .i64 a,.int .i64 most] 282 (0,0))
theorem RdB.below{w w':World}{b:Nat}{s:ByteArray}{a most:Int}(h:RdB w b s a most)(hb:Below w.heap.size w w'):RdB w' b s a most:=(hb.block _ (lt_of_block h)).trans h
theorem place_any(w:World)(b:Nat)(s:ByteArray)(a most:Int)(h:RdB w b s a most):
  Calls Tryz.prog 292 #[.pointer (some ⟨b,0,none⟩)] w λ e w'=>e=.returned (.int .i64 a)∧w'=w:=by
 have c1:w.cell? ⟨b,1,none⟩=some (.int .i64 a):=block_cell h 1;clear h
 go_enter Tryz.func292,Tryz.ntmps292
 go_wp2
 go_ret
 exact⟨rfl,rfl⟩
set_option maxRecDepth 100000 in
set_option maxHeartbeats 1000000 in
theorem here_any(w:World)(b:Nat)(s:ByteArray)(a:Nat)(most:Int)(h:RdB w b s a most)(ha:a≤s.size)(hs:s.size≤9223372036854775807):
  Calls Tryz.prog 266 #[.pointer (some ⟨b,0,none⟩)] w λ e w'=>e=.returned (.string (s.extract a s.size))∧Below w.heap.size w w':=by
 have c0:w.cell? ⟨b,0,none⟩=some (.string s):=block_cell h 0;have c1:w.cell? ⟨b,1,none⟩=some (.int .i64 a):=block_cell h 1;have i1:(a:Int)≤s.size:=by omega
 have i2:0≤(a:Int):=by omega
 have i3:a≤s.size:=ha;clear h
 go_enter Tryz.func266,Tryz.ntmps266
 go_wp2
 refine wp_region_all 1000 (none) (phis (List.map qv [.pointer (some ⟨b,0,none⟩),.pointer (some ⟨b,0,none⟩),.pointer (some ⟨b,0,none⟩),.string s,.pointer (some ⟨b,0,none⟩),.pointer (some ⟨b,0,none⟩),.pointer (some ⟨b,1,none⟩),.int .i64 a,.string (s.extract a s.size),.string (s.extract a s.size)])) rfl (by kernel_rfl) (mono_of mono_qv) (steps_of 10 ⟨?s0,?s1,?s2,?s3,?s4,?s5,?s6,?s7,?s8,?s9,trivial⟩) ?_
 case s0=>
  refine qV (λ _=>rfl) rfl λ av wv hE hO hD=>?_
  simp[go_sem,qF av 0 (.pointer (some ⟨b,0,none⟩)) (hO.2.2 0 rfl),i1,i2,i3]
 case s1=>
  refine qV (λ _=>rfl) rfl λ av wv hE hO hD=>?_
  simp[go_sem,qE (hD.1 rfl _ rfl),i1,i2,i3]
 case s2=>
  refine qV (λ _=>rfl) rfl λ av wv hE hO hD=>?_
  simp[go_sem,qE (hD.1 rfl _ rfl),i1,i2,i3]
 case s3=>
  refine qV (λ _=>rfl) rfl λ av wv hE hO hD=>?_
  simp[go_sem,qE (hD.1 rfl _ rfl),extB_cell hE (by simp) c0,extB_cell hE (by simp) c1,i1,i2,i3]
 case s4=>
  refine qV (λ _=>rfl) rfl λ av wv hE hO hD=>?_
  simp[go_sem,qF av 0 (.pointer (some ⟨b,0,none⟩)) (hO.2.2 0 rfl),i1,i2,i3]
 case s5=>
  refine qV (λ _=>rfl) rfl λ av wv hE hO hD=>?_
  simp[go_sem,qE (hD.1 rfl _ rfl),i1,i2,i3]
 case s6=>
  refine qV (λ _=>rfl) rfl λ av wv hE hO hD=>?_
  simp[go_sem,qE (hD.1 rfl _ rfl),i1,i2,i3]
 case s7=>
  refine qV (λ _=>rfl) rfl λ av wv hE hO hD=>?_
  simp[go_sem,qE (hD.1 rfl _ rfl),extB_cell hE (by simp) c0,extB_cell hE (by simp) c1,i1,i2,i3]
 case s8=>
  refine qV (λ _=>rfl) rfl λ av wv hE hO hD=>?_
  simp[go_sem,qE (hD.1 rfl _ rfl),qE (hD.2.1 rfl _ rfl),i1,i2,i3]
 case s9=>
  refine qV (λ _=>rfl) rfl λ av wv hE hO hD=>?_
  simp[go_sem,qE (hD.1 rfl _ rfl),i1,i2,i3]
 intro a' w' hE hO hall
 have hA:=act_of_outer (ds:=[6,7,8,9,10,11,12,13,14,2]) rfl hO (by kernel_rfl)
 obtain⟨j0,j1,j2,j3,j4,j5,j6,j7,j8,j9,-⟩:=hall
 simp only[List.foldl_cons,List.foldl_nil,Act.put,List.setIfInBounds_toArray,List.set_cons_succ,List.set_cons_zero,qJ 6 (j0 _ rfl),qJ 7 (j1 _ rfl),qJ 8 (j2 _ rfl),qJ 9 (j3 _ rfl),qJ 10 (j4 _ rfl),qJ 11 (j5 _ rfl),qJ 12 (j6 _ rfl),qJ 13 (j7 _ rfl),qJ 14 (j8 _ rfl),qJ 2 (j9 _ rfl)]at hA
 clear hO j0 j1 j2 j3 j4 j5 j6 j7 j8 j9
 subst hA
 have B:=Lib.hid (of_drew hE);clear hE
 go_wp2
 go_ret
 exact⟨rfl,B.out⟩
def boundOf(n most:Int)(rest:ByteArray):Except Int (Int × ByteArray):=if most<n then .error 3 else .ok (n,rest)
set_option maxRecDepth 100000 in
set_option maxHeartbeats 1000000 in
theorem bound_any(w:World)(b:Nat)(s rest:ByteArray)(a most n:Int)(h:RdB w b s a most)(hm0:0≤most)(hm1:most≤9223372036854775807):
  Calls Tryz.prog 296 #[.pointer (some ⟨b,0,none⟩),.agg #[.int .u64 n,.string rest]] w (HeadIs (boundOf n most rest) w):=by
 have c2:w.cell? ⟨b,2,none⟩=some (.int .i64 most):=block_cell h 2;have hl:=lt_of_block h;have i1:IntKind.u64.wrap most=most:=IntWalk.u64_in _ (by omega);clear h
 go_enter Tryz.func296,Tryz.ntmps296
 go_wp2
 obtain⟨W,hW⟩:∃W,(w.alloc (.cells #[.int .u64 n,.string rest] 306)).alloc (.cells #[.int .u64 0,.string ⟨#[]⟩] 306)=W:=⟨_,rfl⟩
 have WB:Hid (Below w.heap.size w W):=Lib.hid (by rw[←hW];(repeat (first | exact Below.refl _ _ | assumption | (refine bdrew ?_) | (refine bdrewN ?_ _) | (refine balloc ?_ _) | (refine bset ?_ (by first | omega | (simp;done) | (simp;omega)) _) | (refine bnext ?_ (by assumption)))))
 have W0:Hid (W.heap[w.heap.size]?=some (.cells #[.int .u64 n,.string rest] 306 (0,0))):=Lib.hid (by rw[←hW];(repeat (first | exact alloc_new_at _ (by repeat (first | rfl | refine alloc_size _ ?_)) | refine block_alloc ?_ _)))
 have W1:Hid (W.heap[w.heap.size+1]?=some (.cells #[.int .u64 0,.string ⟨#[]⟩] 306 (0,0))):=Lib.hid (by rw[←hW];(repeat (first | exact alloc_new_at _ (by repeat (first | rfl | refine alloc_size _ ?_)) | refine block_alloc ?_ _)))
 rw[hW]
 have c2:W.cell? ⟨b,2,none⟩=some (.int .i64 most):=by rw[WB.out.cell (p:=⟨b,2,none⟩) hl];exact c2
 have d0:W.cell? ⟨w.heap.size,0,none⟩=some (.int .u64 n):=block_cell W0.out 0;clear hW
 obtain⟨x,hx⟩:∃x,decide (most<n)=x:=⟨_,rfl⟩
 refine wp_region_all 1000 (none) (phis (List.map qv [.pointer (some ⟨w.heap.size,0,none⟩),.int .u64 n,.pointer (some ⟨b,0,none⟩),.pointer (some ⟨b,0,none⟩),.pointer (some ⟨b,2,none⟩),.int .i64 most,.int .u64 most,.bool x])) rfl (by kernel_rfl) (mono_of mono_qv) (steps_of 8 ⟨?s0,?s1,?s2,?s3,?s4,?s5,?s6,?s7,trivial⟩) ?_
 case s0=>
  refine qV (λ _=>rfl) rfl λ av wv hE hO hD=>?_
  simp[go_sem,qF av 3 (.pointer (some ⟨w.heap.size,0,none⟩)) (hO.2.2 3 rfl),i1]
 case s1=>
  refine qV (λ _=>rfl) rfl λ av wv hE hO hD=>?_
  simp[go_sem,qE (hD.1 rfl _ rfl),extB_cell hE (by simp) d0,extB_cell hE (by simp) c2,i1]
 case s2=>
  refine qV (λ _=>rfl) rfl λ av wv hE hO hD=>?_
  simp[go_sem,qF av 0 (.pointer (some ⟨b,0,none⟩)) (hO.2.2 0 rfl),i1]
 case s3=>
  refine qV (λ _=>rfl) rfl λ av wv hE hO hD=>?_
  simp[go_sem,qE (hD.1 rfl _ rfl),i1]
 case s4=>
  refine qV (λ _=>rfl) rfl λ av wv hE hO hD=>?_
  simp[go_sem,qE (hD.1 rfl _ rfl),i1]
 case s5=>
  refine qV (λ _=>rfl) rfl λ av wv hE hO hD=>?_
  simp[go_sem,qE (hD.1 rfl _ rfl),extB_cell hE (by simp) d0,extB_cell hE (by simp) c2,i1]
 case s6=>
  refine qV (λ _=>rfl) rfl λ av wv hE hO hD=>?_
  simp[go_sem,qE (hD.1 rfl _ rfl),i1]
 case s7=>
  refine step_val (λ av wv hE hS hO hD=>⟨rfl,?_⟩) (λ _=>rfl)
  have f6:=qE (hD.1 rfl _ rfl);have f11:=qE (hD.2.1 rfl _ rfl)
  simp[go_sem,f6,f11,hx]
 intro a' w' hE hO hall
 have hA:=act_of_outer (ds:=[5,6,7,8,9,10,11,12]) rfl hO (by kernel_rfl)
 obtain⟨j0,j1,j2,j3,j4,j5,j6,j7,-⟩:=hall
 simp only[List.foldl_cons,List.foldl_nil,Act.put,List.setIfInBounds_toArray,List.set_cons_succ,List.set_cons_zero,qJ 5 (j0 _ rfl),qJ 6 (j1 _ rfl),qJ 7 (j2 _ rfl),qJ 8 (j3 _ rfl),qJ 9 (j4 _ rfl),qJ 10 (j5 _ rfl),qJ 11 (j6 _ rfl),qJ 12 (j7 _ rfl)]at hA
 clear hO j0 j1 j2 j3 j4 j5 j6 j7
 subst hA
 have B:=Lib.hid (bnext WB.out (of_drew hE));have X0:=Lib.hid (extB_block hE (by simp) W0.out);have X1:=Lib.hid (extB_block hE (by simp) W1.out);have HX:=Lib.hid hx;clear hE c2 d0 hx;have x0:w'.cell? ⟨w.heap.size,0,none⟩=some (.int .u64 n):=block_cell X0.out 0;have x1:w'.cell? ⟨w.heap.size,1,none⟩=some (.string rest):=block_cell X0.out 1;have y0:∀o,w'.cell? ⟨w.heap.size+1,o,none⟩=_:=block_cell X1.out;have y1:∀o,w'.frozen? ⟨w.heap.size+1,o,none⟩=false:=block_free X1.out
 cases x
 ·go_wp2
  refine bodyPost_ret (v:=.agg #[.int .u64 n,.string rest]) (by simp[results,Tryz.results296,go_sem,y0]) rfl ?_
  have:boundOf n most rest=.ok (n,rest):=by unfold boundOf;rw[if_neg (by simpa using HX.out)]
  rw[this]
  exact⟨(by have:=B.out;(repeat (first | exact Below.refl _ _ | assumption | (refine bdrew ?_) | (refine bdrewN ?_ _) | (refine balloc ?_ _) | (refine bset ?_ (by first | omega | (simp;done) | (simp;omega)) _) | (refine bnext ?_ (by assumption))))),rfl⟩
 ·go_wp2_with fail
  refine(stop_any 3 _).mono ?_
  rintro e w1 ⟨rfl,rfl⟩
  go_wp2
  have:boundOf n most rest=.error 3:=by unfold boundOf;rw[if_pos (by simpa using HX.out)]
  rw[this]
  exact⟨rfl,B.out,rfl⟩
theorem behind_any(w:World)(b:Nat)(s:ByteArray)(a left most:Int)(h:RdB w b s a most)(hs:s.size≤9223372036854775807)(l0:0≤left)(l1:left≤s.size):
  Calls Tryz.prog 267 #[.pointer (some ⟨b,0,none⟩),.int .i64 left] w λ e w'=>e=.returned (.tuple #[])∧w'=w.setCell ⟨b,1,none⟩ (.int .i64 (s.size - left)):=by
 have c0:w.cell? ⟨b,0,none⟩=some (.string s):=block_cell h 0;have c1:w.cell? ⟨b,1,none⟩=some (.int .i64 a):=block_cell h 1;have c2:w.frozen? ⟨b,1,none⟩=false:=block_free h 1;clear h
 go_enter Tryz.func267,Tryz.ntmps267
 go_wp2
 go_end0
 exact⟨rfl,rfl⟩
set_option maxRecDepth 100000 in
theorem fault_frame(p q x:Value):#[p,q]++((Array.replicate 24 undef).setIfInBounds 5 x).setIfInBounds 2 x=#[p,q,undef,undef,x,undef,undef,x,undef,undef,undef,undef,undef,undef,undef,undef,undef,undef,undef,undef,undef,undef,undef,undef,undef,undef]:=by
 simp[Array.replicate,List.replicate]
set_option maxRecDepth 100000 in
theorem fault_idle(p q:Value)(w:World):
  CallsD Tryz.prog 264 #[p,q] .returning w λ e u' w'=>e=.returned (.tuple #[])∧u'=.returning∧w'=w:=by
 refine callsD_of_wpS Tryz.func264 rfl λ c₀ cs hu=>?_
 apply wpS_seq
 apply wpS_region
 simp[wpOpsS,go_sem,recoverD,hu,Tryz.ntmps264,Exit.thenS]
 refine wpS_of_wp ?_
 obtain⟨Q,hQ⟩:∃Q:Exit→Act→World→Prop,(λ e a' w'=>bodyPostS Tryz.prog Tryz.f264 c₀ cs (λ e u' w'=>e=Ending.returned (.tuple #[])∧u'=.returning∧w'=w) e a' (c₀ :: cs) w')=Q:=⟨_,rfl⟩
 rw[hQ,fault_frame]
 have HQ:=Lib.hid hQ;clear hQ
 go_wp2
 rw[←HQ.out]
 simp[bodyPostS,results,Tryz.results264]
 cases c₀;simp_all
theorem assert_errno(k:Int)(w:World):(Instr.typeAssert (.iface 27 (.int .i64 k)) 20 27 true).run Tryz.prog w=.ok (.tuple #[.int .i64 k,.bool true]) w:=by kernel_rfl
set_option maxRecDepth 100000 in
theorem fault_some(k:Int)(older:List PanicEntry)(p:Value)(a:Int)(eb:Nat)(x:Value)(w:World)(hp:Calls Tryz.prog 292 #[p] w λ e w'=>e=.returned (.int .i64 a)∧w'=w)
  (hc:w.cell? ⟨eb,0,none⟩=some x) (hx:x.oneCell'=true) (hz:w.frozen? ⟨eb,0,none⟩=false):
  CallsD Tryz.prog 264 #[p,.pointer (some ⟨eb,0,none⟩)] (.panicking ({ v:=.iface 27 (.int .i64 k),recovered:=false } :: older)) w λ e u' w'=>
   e=.returned (.tuple #[])∧u'=.panicking ({ v:=.iface 27 (.int .i64 k),recovered:=true } :: older)∧
   w'=(w.setCell ⟨eb,0,none⟩ (.iface 290 (.pointer (some ⟨w.heap.size,0,none⟩)))).alloc (.cells #[.int .i64 k,.int .i64 a] 145):=by
 refine callsD_of_wpS Tryz.func264 rfl λ c₀ cs hu=>?_
 apply wpS_seq
 apply wpS_region
 simp[wpOpsS,go_sem,recoverD,hu,Tryz.ntmps264,Exit.thenS]
 refine wpS_of_wp ?_
 obtain⟨Q,hQ⟩:∃Q:Exit→Act→World→Prop,(λ e a' w'=>bodyPostS Tryz.prog Tryz.f264 c₀ cs (λ e u' w'=>e=Ending.returned (.tuple #[])∧u'=.panicking ({ v:=.iface 27 (.int .i64 k),recovered:=true } :: older)∧w'=(w.setCell ⟨eb,0,none⟩ (.iface 290 (.pointer (some ⟨w.heap.size,0,none⟩)))).alloc (.cells #[.int .i64 k,.int .i64 a] 145)) e a' ({ c₀ with mode:=.panicking ({ v:=.iface 27 (.int .i64 k),recovered:=true } :: older) } :: cs) w')=Q:=⟨_,rfl⟩
 rw[hQ,fault_frame]
 have HQ:=Lib.hid hQ;clear hQ hu;have ha:=assert_errno k;have hl:=lt_of_cell hc
 go_wp2_with fail
 refine hp.mono ?_
 rintro e w1 ⟨rfl,rfl⟩
 go_wp2
 rw[←HQ.out]
 exact⟨rfl,_,rfl,.tuple #[],by simp[results,Tryz.results264],rfl,rfl,rfl⟩
end Go.Proofs.YtpobhbdomldecaaGreatDoor
namespace Go.Proofs.YtpobhbdomldecaaGreatDoor
set_option linter.unusedSimpArgs false
set_option linter.unusedVariables false
open Go.RowKit
theorem head_bd{t:ByteArray}{l:List URow}{n:Int}{rest:ByteArray}(hok:∀i,(unth l i).Ok)(h:headOf t l=.ok (n,rest)):0≤n∧n≤18446744073709551615∧rest.size<t.size:=by
 unfold headOf at h
 split at h
 ·cases h
 ·next h0=>
  split at h
  ·cases h
  ·next r hr=>
   have hp:=List.find?_some hr
   obtain⟨i,hi,rfl⟩:=List.getElem_of_mem (List.mem_of_find?_eq_some hr)
   have ok:=hok i
   rw[unth_eq l i hi]at ok
   simp only[Bool.and_eq_true,decide_eq_true_eq]at hp
   obtain⟨v,hv⟩:∃v,(if l[i].size=0 then byte t 0 - l[i].lo else be t l[i].size.toNat)=v:=⟨_,rfl⟩
   simp only[hv]at h
   by_cases h1:(t.size:Int)<1+l[i].size
   ·rw[if_pos h1]at h;cases h
   ·rw[if_neg h1]at h
    by_cases h2:v<l[i].least
    ·rw[if_pos h2]at h;cases h
    ·rw[if_neg h2]at h
     simp only[Except.ok.injEq,Prod.mk.injEq]at h
     obtain⟨rfl,rfl⟩:=h
     have vb:=numAt_bd (s:=t) (r:=l[i]) (j:=l[i].size.toNat) (by have:=ok.sz1;have:=ok.sz0;omega) ok hp.1
     unfold numAt at vb
     rw[hv]at vb
     refine⟨vb.1,vb.2,?_⟩
     rw[ByteArray.size_extract];omega
def ReadIs(res:Except Int (Value × Nat))(zero:Value)(b:Nat)(s:ByteArray)(most:Int)(a:Nat)(w:World)(e:Ending)(w':World):Prop:=
 ExtB (some b) w w'∧match res with
  | .ok x=>e=.returned (.tuple #[x.1,.nilIface])∧RdB w' b s x.2 most
  | .error k=>RdB w' b s a most∧∃f,e=.returned (.tuple #[zero,.iface 290 (.pointer (some ⟨f,0,none⟩))])∧w.heap.size≤f∧w'.heap[f]?=some (.cells #[.int .i64 k,.int .i64 a] 145 (0,0))
def textOf(s:ByteArray)(a:Nat)(most:Int)(l:List URow):Except Int (Value × Nat):=
 match headOf (s.extract a s.size) l with
 | .error k=>.error k
 | .ok (n,rest)=>if most<n then .error 3 else if(rest.size:Int)<n then .error 4 else .ok (.string (rest.extract 0 n.toNat),s.size - (rest.size - n.toNat))
def countOf(s:ByteArray)(a:Nat)(most:Int)(l:List URow):Except Int (Value × Nat):=
 match headOf (s.extract a s.size) l with
 | .error k=>.error k
 | .ok (n,rest)=>if most<n then .error 3 else .ok (.int .i64 n,s.size - rest.size)
def numOf(s:ByteArray)(a:Nat)(l:List URow):Except Int (Value × Nat):=
 match headOf (s.extract a s.size) l with
 | .error k=>.error k
 | .ok (n,rest)=>.ok (.int .u64 n,s.size - rest.size)
theorem extB_own{w w1 w':World}{b:Nat}(h:Below w.heap.size w w1)(hE:ExtB (some w.heap.size) w1 w'):ExtB (some b) w w':=
 ⟨hE.os.trans h.os,hE.tape.trans h.tape,hE.output.trans h.output,Nat.le_trans h.size hE.size,λ i hi _=>(hE.block i (Nat.lt_of_lt_of_le hi h.size) (by intro e;cases e;omega)).trans (h.block i hi)⟩
theorem ext_set{w w1:World}{b eb:Nat}(h:ExtB (some b) w w1)(he:w.heap.size≤eb)(v:Value):ExtB (some b) w (w1.setCell ⟨eb,0,none⟩ v):=
 ⟨h.os,h.tape,h.output,by simpa using h.size,λ i hi hn=>by rw[Below.heap_setCell _ _ _ _ (by show i≠eb;omega)];exact h.block i hi hn⟩
theorem door_err{fn:Func}{tmps:Array Value}{R:Ending→World→Prop}(k:Int)(b:Nat)(s:ByteArray)(a:Nat)(most:Int)(w1:World)(eb:Nat)(zero:Value)(h:RdB w1 b s a most)
  (he:w1.heap[eb]?=some (.cells #[.nilIface] 89 (0,0))) (hne:eb≠b)
  (hr:∀w:World,w.cell? ⟨eb,0,none⟩=some (.iface 290 (.pointer (some ⟨w1.heap.size,0,none⟩)))→(results fn tmps).run Tryz.prog w=.ok (.tuple #[zero,.iface 290 (.pointer (some ⟨w1.heap.size,0,none⟩))]) w)
  (hR:∀w':World,ExtB (some eb) w1 w'→RdB w' b s a most→w'.heap[w1.heap.size]?=some (.cells #[.int .i64 k,.int .i64 a] 145 (0,0))→R (.returned (.tuple #[zero,.iface 290 (.pointer (some ⟨w1.heap.size,0,none⟩))])) w'):
  Leaves Tryz.prog fn tmps R [{ target:=.fn (.func 264) #[],args:=#[.pointer (some ⟨b,0,none⟩),.pointer (some ⟨eb,0,none⟩)] }] (.panicking (chainOf k)) w1:=by
 refine leaves_cons (f:=264) (args:=#[.pointer (some ⟨b,0,none⟩),.pointer (some ⟨eb,0,none⟩)]) (by simp) (by simp[go_sem]) ?_
 refine(fault_some k [] (.pointer (some ⟨b,0,none⟩)) a eb .nilIface w1 (place_any w1 b s a most h) (block_cell he 0) rfl (block_free he 0)).mono ?_
 rintro e u' w'' ⟨rfl,rfl,rfl⟩
 have hl:=lt_of_block he;have hs:(w1.setCell ⟨eb,0,none⟩ (.iface 290 (.pointer (some ⟨w1.heap.size,0,none⟩)))).heap.size=w1.heap.size:=by simp
 have hb0:(w1.setCell ⟨eb,0,none⟩ (.iface 290 (.pointer (some ⟨w1.heap.size,0,none⟩)))).heap[eb]?=_:=block_setCell he _;have hb:=block_alloc hb0 (.cells #[.int .i64 k,.int .i64 a] 145)
 refine⟨_,hr _ (block_cell hb 0),hR _ ?_ ?_ ?_⟩
 ·refine⟨rfl,rfl,rfl,by simp,λ i hi hn=>?_⟩
  rw[Below.heap_alloc _ _ _ (by rw[hs];exact hi),Below.heap_setCell _ _ _ _ (by intro e;subst e;exact hn rfl)]
 ·exact block_alloc (block_setCell_ne h (by exact λ e=>hne e.symm) _) _
 ·exact alloc_new_at _ hs
set_option maxRecDepth 100000 in
set_option maxHeartbeats 1000000 in
theorem text_any(w:World)(b:Nat)(s:ByteArray)(a:Nat)(most:Int)(ra:Option Addr)(rc:Nat)(l:List URow)(h:RdB w b s a most)(ha:a≤s.size)(hs:s.size≤9223372036854775807)(hm0:0≤most)(hm1:most≤9223372036854775807)
  (hl0:0<len l) (hl:len l≤100) (hc:URows w ra l) (hok:∀i,(unth l i).Ok):
  Calls Tryz.prog 281 #[.pointer (some ⟨b,0,none⟩),.slice ra (len l) rc] w (ReadIs (textOf s a most l) (.string ⟨#[]⟩) b s most a w):=by
 have HC:=Lib.hid hc;have HO:=Lib.hid hok;have H:=Lib.hid h;have hbl:=lt_of_block h;clear hc hok h
 go_enter_defers Tryz.func281,Tryz.ntmps281
 go_wp2_with fail
 obtain⟨W,hW⟩:∃W,w.alloc (.cells #[.nilIface] 89)=W:=⟨_,rfl⟩
 have WB:Hid (Below w.heap.size w W):=Lib.hid (by rw[←hW];(repeat (first | exact Below.refl _ _ | assumption | (refine bdrew ?_) | (refine bdrewN ?_ _) | (refine balloc ?_ _) | (refine bset ?_ (by first | omega | (simp;done) | (simp;omega)) _) | (refine bnext ?_ (by assumption)))))
 have W0:Hid (W.heap[w.heap.size]?=some (.cells #[.nilIface] 89 (0,0))):=Lib.hid (by rw[←hW];(repeat (first | exact alloc_new_at _ (by repeat (first | rfl | refine alloc_size _ ?_)) | refine block_alloc ?_ _)))
 rw[hW]
 clear hW
 refine(here_any W b s a most (H.out.below WB.out) ha hs).mono ?_
 rintro e w1 ⟨rfl,hb1⟩
 have B1:=Lib.hid hb1;clear hb1
 go_wp2_with fail
 have hts:(s.extract a s.size).size≤9223372036854775807:=by rw[ByteArray.size_extract];omega
 refine(head_any (s.extract a s.size) ra rc l w1 hts hl0 hl (HC.out.below (bnext WB.out B1.out)) HO.out).mono ?_
 intro e w2 hh
 cases hres:headOf (s.extract a s.size) l with
 | error k=>
  rw[hres]at hh
  obtain⟨rfl,hb2⟩:=headIs_err hh
  have B2:=Lib.hid (bnext B1.out hb2);have T:Hid (textOf s a most l=.error k):=Lib.hid (by unfold textOf;rw[hres]);clear hh hb2 hres
  go_wp2
  rw[T.out]
  refine door_err k b s a most w2 w.heap.size (.string ⟨#[]⟩) (H.out.below (bnext WB.out B2.out)) ((B2.out.block _ (lt_of_block W0.out)).trans W0.out) (by omega) (λ w hc=>by simp[results,Tryz.results281,go_sem,hc]) (λ w' hE hR hf=>?_)
  have hz:=(bnext WB.out B2.out).size
  exact⟨extB_own (bnext WB.out B2.out) hE,hR,_,rfl,hz,hf⟩
 | ok x=>
  obtain⟨n,rest⟩:=x
  rw[hres]at hh
  obtain⟨rfl,hb2⟩:=headIs_ok hh
  have B2:=Lib.hid (bnext B1.out hb2)
  obtain⟨n0,n1,hrest⟩:=head_bd HO.out hres
  have HRES:=Lib.hid hres;have hrs:rest.size<(s.extract a s.size).size:=hrest;have hss:(s.extract a s.size).size=s.size - a:=by rw[ByteArray.size_extract];omega
  have hr2:rest.size<s.size - a:=by omega
  clear hh hb2 hres hrest hts hss hrs
  go_wp2_with fail
  refine(bound_any w2 b s rest a most n (H.out.below (bnext WB.out B2.out)) hm0 hm1).mono ?_
  intro e w3 hh
  by_cases hmn:most<n
  ·have hbo:boundOf n most rest=.error 3:=by unfold boundOf;rw[if_pos hmn]
   rw[hbo]at hh
   obtain⟨rfl,hb3⟩:=headIs_err hh
   have B3:=Lib.hid (bnext B2.out hb3);have T:Hid (textOf s a most l=.error 3):=Lib.hid (by unfold textOf;rw[HRES.out];exact if_pos hmn);clear hh hb3 hbo
   go_wp2
   rw[T.out]
   refine door_err 3 b s a most w3 w.heap.size (.string ⟨#[]⟩) (H.out.below (bnext WB.out B3.out)) ((B3.out.block _ (lt_of_block W0.out)).trans W0.out) (by omega) (λ w hc=>by simp[results,Tryz.results281,go_sem,hc]) (λ w' hE hR hf=>?_)
   have hz:=(bnext WB.out B3.out).size
   exact⟨extB_own (bnext WB.out B3.out) hE,hR,_,rfl,hz,hf⟩
  ·have hbo:boundOf n most rest=.ok (n,rest):=by unfold boundOf;rw[if_neg hmn]
   rw[hbo]at hh
   obtain⟨rfl,hb3⟩:=headIs_ok hh
   have B3:=Lib.hid (bnext B2.out hb3);clear hh hb3 hbo
   obtain⟨q,hq⟩:∃q:Nat,n=q:=⟨n.toNat,by omega⟩
   subst hq
   have i1:IntKind.u64.wrap (rest.size:Int)=rest.size:=IntWalk.u64_in _ (by omega);have i2:IntKind.i64.wrap (q:Int)=q:=IntWalk.i64_in _ (by omega)
   by_cases hrq:rest.size<q
   ·have T:Hid (textOf s a most l=.error 4):=Lib.hid (by
     unfold textOf;rw[HRES.out]
     show(if most<(q:Int)then _ else _)=_
     rw[if_neg hmn,if_pos (by omega)])
    have t1:(rest.size:Int)<q:=by omega
    go_wp2_with fail
    refine(stop_any 4 _).mono ?_
    rintro e w4 ⟨rfl,hw4⟩
    have B4:Hid (Below W.heap.size W w4):=Lib.hid (by rw[hw4];exact balloc B3.out _);clear hw4
    go_wp2
    rw[T.out]
    refine door_err 4 b s a most w4 w.heap.size (.string ⟨#[]⟩) (H.out.below (bnext WB.out B4.out)) ((B4.out.block _ (lt_of_block W0.out)).trans W0.out) (by omega) (λ w hc=>by simp[results,Tryz.results281,go_sem,hc]) (λ w' hE hR hf=>?_)
    have hz:=(bnext WB.out B4.out).size
    exact⟨extB_own (bnext WB.out B4.out) hE,hR,_,rfl,hz,hf⟩
   ·have T:Hid (textOf s a most l=.ok (.string (rest.extract 0 q),s.size - (rest.size - q))):=Lib.hid (by
     unfold textOf;rw[HRES.out]
     show(if most<(q:Int)then _ else _)=_
     rw[if_neg hmn,if_neg (by omega)];rfl)
    have t1:¬(rest.size:Int)<q:=by omega
    have hb3:b<w3.heap.size:=Nat.lt_of_lt_of_le hbl (bnext WB.out B3.out).size;have he3:w.heap.size<w3.heap.size:=Nat.lt_of_lt_of_le (lt_of_block W0.out) B3.out.size
    go_wp2_with fail
    refine(behind_any _ b s a (rest.size - q) most (block_alloc (H.out.below (bnext WB.out B3.out)) _) hs (by omega) (by omega)).mono ?_
    rintro e w5 ⟨rfl,hw5⟩
    have R5:Hid (RdB w5 b s ((s.size - (rest.size - q):Nat):Int) most):=Lib.hid (by
     rw[hw5]
     have h:=block_setCell (block_alloc (H.out.below (bnext WB.out B3.out)) (.cells #[.int .u64 q,.string rest] 306)) (o:=1) (.int .i64 ((s.size:Int) - (rest.size - q)))
     rw[show((s.size - (rest.size - q):Nat):Int)=(s.size:Int) - (rest.size - q)by omega]
     exact h)
    have E5:w5.heap[w.heap.size]?=some (.cells #[.nilIface] 89 (0,0)):=by
     rw[hw5];exact block_setCell_ne (block_alloc ((B3.out.block _ (lt_of_block W0.out)).trans W0.out) _) (by show w.heap.size≠b;omega) _
    have N5:w5.heap[w3.heap.size]?=some (.cells #[.int .u64 q,.string rest] 306 (0,0)):=by
     rw[hw5];exact block_setCell_ne (alloc_new_at _ rfl) (by show w3.heap.size≠b;omega) _
    have X5:Hid (ExtB (some b) w w5):=Lib.hid (by
     rw[hw5]
     have hB:=balloc (bnext WB.out B3.out) (.cells #[.int .u64 q,.string rest] 306)
     exact⟨hB.os,hB.tape,hB.output,by simpa using hB.size,λ i hi hn=>by rw[Below.heap_setCell _ _ _ _ (by exact λ e=>hn (by rw[e]))];exact hB.block i hi⟩)
    have a0:w5.cell? ⟨w3.heap.size,0,none⟩=some (.int .u64 q):=block_cell N5 0;have a1:w5.cell? ⟨w3.heap.size,1,none⟩=some (.string rest):=block_cell N5 1;have a2:w5.cell? ⟨w.heap.size,0,none⟩=some .nilIface:=block_cell E5 0;have a3:w5.frozen? ⟨w.heap.size,0,none⟩=false:=block_free E5 0;have hz5:=lt_of_block E5;have qr:q≤rest.size:=by omega
    clear hw5 E5 N5
    go_wp2
    rw[T.out]
    refine leaves_cons (f:=264) (args:=#[.pointer (some ⟨b,0,none⟩),.pointer (some ⟨w.heap.size,0,none⟩)]) (by simp) (by simp[go_sem]) ?_
    refine(fault_idle (.pointer (some ⟨b,0,none⟩)) (.pointer (some ⟨w.heap.size,0,none⟩)) _).mono ?_
    rintro e u' w'' ⟨rfl,rfl,rfl⟩
    refine⟨_,by simp[results,Tryz.results281,go_sem,a2];rfl,?_⟩
    refine⟨?_,rfl,?_⟩
    ·exact ext_set X5.out (Nat.le_refl _) _
    ·exact block_setCell_ne R5.out (by show b≠w.heap.size;omega) _
set_option maxRecDepth 100000 in
set_option maxHeartbeats 1000000 in
theorem count_any(w:World)(b:Nat)(s:ByteArray)(a:Nat)(most:Int)(ra:Option Addr)(rc:Nat)(l:List URow)(h:RdB w b s a most)(ha:a≤s.size)(hs:s.size≤9223372036854775807)(hm0:0≤most)(hm1:most≤9223372036854775807)
  (hl0:0<len l) (hl:len l≤100) (hc:URows w ra l) (hok:∀i,(unth l i).Ok):
  Calls Tryz.prog 280 #[.pointer (some ⟨b,0,none⟩),.slice ra (len l) rc] w (ReadIs (countOf s a most l) (.int .i64 0) b s most a w):=by
 have HC:=Lib.hid hc;have HO:=Lib.hid hok;have H:=Lib.hid h;have hbl:=lt_of_block h;clear hc hok h
 go_enter_defers Tryz.func280,Tryz.ntmps280
 go_wp2_with fail
 obtain⟨W,hW⟩:∃W,w.alloc (.cells #[.nilIface] 89)=W:=⟨_,rfl⟩
 have WB:Hid (Below w.heap.size w W):=Lib.hid (by rw[←hW];(repeat (first | exact Below.refl _ _ | assumption | (refine bdrew ?_) | (refine bdrewN ?_ _) | (refine balloc ?_ _) | (refine bset ?_ (by first | omega | (simp;done) | (simp;omega)) _) | (refine bnext ?_ (by assumption)))))
 have W0:Hid (W.heap[w.heap.size]?=some (.cells #[.nilIface] 89 (0,0))):=Lib.hid (by rw[←hW];(repeat (first | exact alloc_new_at _ (by repeat (first | rfl | refine alloc_size _ ?_)) | refine block_alloc ?_ _)))
 rw[hW]
 clear hW
 refine(here_any W b s a most (H.out.below WB.out) ha hs).mono ?_
 rintro e w1 ⟨rfl,hb1⟩
 have B1:=Lib.hid hb1;clear hb1
 go_wp2_with fail
 have hts:(s.extract a s.size).size≤9223372036854775807:=by rw[ByteArray.size_extract];omega
 refine(head_any (s.extract a s.size) ra rc l w1 hts hl0 hl (HC.out.below (bnext WB.out B1.out)) HO.out).mono ?_
 intro e w2 hh
 cases hres:headOf (s.extract a s.size) l with
 | error k=>
  rw[hres]at hh
  obtain⟨rfl,hb2⟩:=headIs_err hh
  have B2:=Lib.hid (bnext B1.out hb2);have T:Hid (countOf s a most l=.error k):=Lib.hid (by unfold countOf;rw[hres]);clear hh hb2 hres
  go_wp2
  rw[T.out]
  refine door_err k b s a most w2 w.heap.size (.int .i64 0) (H.out.below (bnext WB.out B2.out)) ((B2.out.block _ (lt_of_block W0.out)).trans W0.out) (by omega) (λ w hc=>by simp[results,Tryz.results280,go_sem,hc]) (λ w' hE hR hf=>?_)
  have hz:=(bnext WB.out B2.out).size
  exact⟨extB_own (bnext WB.out B2.out) hE,hR,_,rfl,hz,hf⟩
 | ok x=>
  obtain⟨n,rest⟩:=x
  rw[hres]at hh
  obtain⟨rfl,hb2⟩:=headIs_ok hh
  have B2:=Lib.hid (bnext B1.out hb2)
  obtain⟨n0,n1,hrest⟩:=head_bd HO.out hres
  have HRES:=Lib.hid hres;have hrs:rest.size<(s.extract a s.size).size:=hrest;have hss:(s.extract a s.size).size=s.size - a:=by rw[ByteArray.size_extract];omega
  have hr2:rest.size<s.size - a:=by omega
  clear hh hb2 hres hrest hts hss hrs
  go_wp2_with fail
  refine(bound_any w2 b s rest a most n (H.out.below (bnext WB.out B2.out)) hm0 hm1).mono ?_
  intro e w3 hh
  by_cases hmn:most<n
  ·have hbo:boundOf n most rest=.error 3:=by unfold boundOf;rw[if_pos hmn]
   rw[hbo]at hh
   obtain⟨rfl,hb3⟩:=headIs_err hh
   have B3:=Lib.hid (bnext B2.out hb3);have T:Hid (countOf s a most l=.error 3):=Lib.hid (by unfold countOf;rw[HRES.out];exact if_pos hmn);clear hh hb3 hbo
   go_wp2
   rw[T.out]
   refine door_err 3 b s a most w3 w.heap.size (.int .i64 0) (H.out.below (bnext WB.out B3.out)) ((B3.out.block _ (lt_of_block W0.out)).trans W0.out) (by omega) (λ w hc=>by simp[results,Tryz.results280,go_sem,hc]) (λ w' hE hR hf=>?_)
   have hz:=(bnext WB.out B3.out).size
   exact⟨extB_own (bnext WB.out B3.out) hE,hR,_,rfl,hz,hf⟩
  ·have hbo:boundOf n most rest=.ok (n,rest):=by unfold boundOf;rw[if_neg hmn]
   rw[hbo]at hh
   obtain⟨rfl,hb3⟩:=headIs_ok hh
   have B3:=Lib.hid (bnext B2.out hb3);clear hh hb3 hbo
   obtain⟨q,hq⟩:∃q:Nat,n=q:=⟨n.toNat,by omega⟩
   subst hq
   have i2:IntKind.i64.wrap (q:Int)=q:=IntWalk.i64_in _ (by omega);have T:Hid (countOf s a most l=.ok (.int .i64 q,s.size - rest.size)):=Lib.hid (by
    unfold countOf;rw[HRES.out]
    show(if most<(q:Int)then _ else _)=_
    rw[if_neg hmn])
   have hb3:b<w3.heap.size:=Nat.lt_of_lt_of_le hbl (bnext WB.out B3.out).size;have he3:w.heap.size<w3.heap.size:=Nat.lt_of_lt_of_le (lt_of_block W0.out) B3.out.size
   go_wp2_with fail
   refine(behind_any _ b s a rest.size most (block_alloc (H.out.below (bnext WB.out B3.out)) _) hs (by omega) (by omega)).mono ?_
   rintro e w5 ⟨rfl,hw5⟩
   have R5:Hid (RdB w5 b s ((s.size - rest.size:Nat):Int) most):=Lib.hid (by
    rw[hw5]
    have h:=block_setCell (block_alloc (H.out.below (bnext WB.out B3.out)) (.cells #[.int .u64 q,.string rest] 306)) (o:=1) (.int .i64 ((s.size:Int) - rest.size))
    rw[show((s.size - rest.size:Nat):Int)=(s.size:Int) - rest.size by omega]
    exact h)
   have E5:w5.heap[w.heap.size]?=some (.cells #[.nilIface] 89 (0,0)):=by
    rw[hw5];exact block_setCell_ne (block_alloc ((B3.out.block _ (lt_of_block W0.out)).trans W0.out) _) (by show w.heap.size≠b;omega) _
   have N5:w5.heap[w3.heap.size]?=some (.cells #[.int .u64 q,.string rest] 306 (0,0)):=by
    rw[hw5];exact block_setCell_ne (alloc_new_at _ rfl) (by show w3.heap.size≠b;omega) _
   have X5:Hid (ExtB (some b) w w5):=Lib.hid (by
    rw[hw5]
    have hB:=balloc (bnext WB.out B3.out) (.cells #[.int .u64 q,.string rest] 306)
    exact⟨hB.os,hB.tape,hB.output,by simpa using hB.size,λ i hi hn=>by rw[Below.heap_setCell _ _ _ _ (by exact λ e=>hn (by rw[e]))];exact hB.block i hi⟩)
   have a0:w5.cell? ⟨w3.heap.size,0,none⟩=some (.int .u64 q):=block_cell N5 0;have a2:w5.cell? ⟨w.heap.size,0,none⟩=some .nilIface:=block_cell E5 0;have a3:w5.frozen? ⟨w.heap.size,0,none⟩=false:=block_free E5 0;have hz5:=lt_of_block E5;clear hw5 E5 N5
   go_wp2
   rw[T.out]
   refine leaves_cons (f:=264) (args:=#[.pointer (some ⟨b,0,none⟩),.pointer (some ⟨w.heap.size,0,none⟩)]) (by simp) (by simp[go_sem]) ?_
   refine(fault_idle (.pointer (some ⟨b,0,none⟩)) (.pointer (some ⟨w.heap.size,0,none⟩)) _).mono ?_
   rintro e u' w'' ⟨rfl,rfl,rfl⟩
   refine⟨_,by simp[results,Tryz.results280,go_sem,a2];rfl,?_⟩
   refine⟨?_,rfl,?_⟩
   ·exact ext_set X5.out (Nat.le_refl _) _
   ·exact block_setCell_ne R5.out (by show b≠w.heap.size;omega) _
end Go.Proofs.YtpobhbdomldecaaGreatDoor
namespace Go.Proofs.YtpobhbdomldecaaGreatDoor
set_option linter.unusedSimpArgs false
set_option linter.unusedVariables false
open Go.RowKit
def numsL:List URow:=[⟨0,127,0,0⟩,⟨204,204,1,128⟩,⟨205,205,2,256⟩,⟨206,206,4,65536⟩,⟨207,207,8,4294967296⟩]
def binsL:List URow:=[⟨196,196,1,0⟩,⟨197,197,2,256⟩]
def strsL:List URow:=[⟨160,191,0,0⟩,⟨217,217,1,32⟩,⟨218,218,2,256⟩]
def listsL:List URow:=[⟨144,159,0,0⟩,⟨220,220,2,16⟩]
def pairsL:List URow:=[⟨128,143,0,0⟩,⟨222,222,2,16⟩]
theorem urows_ok{l:List URow}(h:(l.all λ r=>decide (0≤r.lo) && decide (r.hi≤255) && decide (0≤r.size) && decide (r.size≤8) && decide (0≤r.least) && decide (r.least≤4294967296))=true):∀i,(unth l i).Ok:=λ i=>by
 rcases Nat.lt_or_ge i l.length with hi | hi
 ·rw[unth_eq l i hi]
  have:=List.all_eq_true.1 h l[i] (List.getElem_mem _)
  simp only[Bool.and_eq_true,decide_eq_true_eq]at this
  obtain⟨⟨⟨⟨⟨a,b⟩,c⟩,d⟩,e⟩,f⟩:=this
  exact⟨a,b,c,d,e,f⟩
 ·have:unth l i=URow.zero:=by unfold unth;rw[List.getD_eq_getElem?_getD,List.getElem?_eq_none hi];rfl
  rw[this];exact⟨by decide,by decide,by decide,by decide,by decide,by decide⟩
theorem numsL_ok:∀i,(unth numsL i).Ok:=urows_ok (by decide)
theorem binsL_ok:∀i,(unth binsL i).Ok:=urows_ok (by decide)
theorem strsL_ok:∀i,(unth strsL i).Ok:=urows_ok (by decide)
theorem listsL_ok:∀i,(unth listsL i).Ok:=urows_ok (by decide)
theorem pairsL_ok:∀i,(unth pairsL i).Ok:=urows_ok (by decide)
def TabAt(B:Nat)(w:World)(g:Nat)(l:List URow):Prop:=∃tb tq rc,g<B∧tb<B∧B≤w.heap.size∧w.cell? ⟨g,0,none⟩=some (.slice (some ⟨tb,tq,none⟩) (len l) rc)∧URows w (some ⟨tb,tq,none⟩) l
theorem TabAt.ext{B:Nat}{w w':World}{g b:Nat}{l:List URow}(h:TabAt B w g l)(hE:ExtB (some b) w w')(hb:B≤b):TabAt B w' g l:=by
 obtain⟨tb,tq,rc,h1,h2,h5,h3,h4⟩:=h
 have e:∀x o,x<B→w'.cell? ⟨x,o,none⟩=w.cell? ⟨x,o,none⟩:=λ x o hx=>World.cell?_of_block (w:=w) (hE.block x (by omega) (by intro e;cases e;omega))
 refine⟨tb,tq,rc,h1,h2,Nat.le_trans h5 hE.size,by rw[e g 0 h1];exact h3,λ i hi=>?_⟩
 obtain⟨b',off',e2,⟨c0,c1,c2,c3⟩⟩:=h4 i hi
 cases e2
 exact⟨tb,tq,rfl,by rw[e tb _ h2];exact c0,by rw[e tb _ h2];exact c1,by rw[e tb _ h2];exact c2,by rw[e tb _ h2];exact c3⟩
theorem below_extB{w w':World}(h:Below w.heap.size w w')(b:Nat):ExtB (some b) w w':=⟨h.os,h.tape,h.output,h.size,λ i hi _=>h.block i hi⟩
theorem TabAt.below{B:Nat}{w w':World}{g:Nat}{l:List URow}(h:TabAt B w g l)(hb:Below w.heap.size w w'):TabAt B w' g l:=by
 obtain⟨tb,tq,rc,h1,h2,h5,h3,h4⟩:=h
 exact TabAt.ext ⟨tb,tq,rc,h1,h2,h5,h3,h4⟩ (below_extB hb B) (Nat.le_refl _)
def ListsAt(B:Nat)(w:World):Prop:=True
theorem ListsAt.imp{B:Nat}{w w':World}(h:ListsAt B w)(k:∀g l,TabAt B w g l→TabAt B w' g l):ListsAt B w':=trivial
structure Tabs(B:Nat)(w:World):Prop where
 nums:TabAt B w 0 numsL
 lists:ListsAt B w
 bins:TabAt B w 6 binsL
 strs:TabAt B w 2 strsL
 pairs:TabAt B w 1 pairsL
theorem Tabs.ext{B:Nat}{w w':World}{b:Nat}(h:Tabs B w)(hE:ExtB (some b) w w')(hb:B≤b):Tabs B w':=⟨h.nums.ext hE hb,h.lists.imp (λ _ _ h=>h.ext hE hb),h.bins.ext hE hb,h.strs.ext hE hb,h.pairs.ext hE hb⟩
theorem Tabs.below{B:Nat}{w w':World}(h:Tabs B w)(hb:Below w.heap.size w w'):Tabs B w':=⟨h.nums.below hb,h.lists.imp (λ _ _ h=>h.below hb),h.bins.below hb,h.strs.below hb,h.pairs.below hb⟩
set_option maxRecDepth 100000 in
theorem Bin_any(w:World)(B b:Nat)(s:ByteArray)(a:Nat)(most:Int)(ht:Tabs B w)(h:RdB w b s a most)(ha:a≤s.size)(hs:s.size≤9223372036854775807)(hm0:0≤most)(hm1:most≤9223372036854775807):
  Calls Tryz.prog 268 #[.pointer (some ⟨b,0,none⟩)] w (ReadIs (textOf s a most binsL) (.string ⟨#[]⟩) b s most a w):=by
 obtain⟨tb,tq,rc,-,-,-,cg,hrow⟩:=ht.bins
 have HC:=Lib.hid hrow;have H:=Lib.hid h;clear ht hrow h
 go_enter Tryz.func268,Tryz.ntmps268
 go_wp2_with fail
 refine(text_any w b s a most (some ⟨tb,tq,none⟩) rc binsL H.out ha hs hm0 hm1 (by decide) (by decide) HC.out binsL_ok).mono ?_
 intro e w1 hh
 clear cg
 obtain⟨hE,hm⟩:=hh
 have HE:=Lib.hid hE
 cases hres:textOf s a most binsL with
 | error k=>
  rw[hres]at hm
  obtain⟨hR,f,rfl,hf,hb⟩:=hm
  have HR:=Lib.hid hR;have HB:=Lib.hid hb;have HRES:=Lib.hid hres;clear hR hb hE hres
  go_wp2
  go_ret2
  rw[HRES.out]
  exact⟨HE.out,HR.out,f,rfl,hf,HB.out⟩
 | ok x=>
  rw[hres]at hm
  obtain⟨rfl,hR⟩:=hm
  have HR:=Lib.hid hR;have HRES:=Lib.hid hres;clear hR hE hres
  go_wp2
  go_ret2
  rw[HRES.out]
  exact⟨HE.out,rfl,HR.out⟩
set_option maxRecDepth 100000 in
theorem Str_any(w:World)(B b:Nat)(s:ByteArray)(a:Nat)(most:Int)(ht:Tabs B w)(h:RdB w b s a most)(ha:a≤s.size)(hs:s.size≤9223372036854775807)(hm0:0≤most)(hm1:most≤9223372036854775807):
  Calls Tryz.prog 247 #[.pointer (some ⟨b,0,none⟩)] w (ReadIs (textOf s a most strsL) (.string ⟨#[]⟩) b s most a w):=by
 obtain⟨tb,tq,rc,-,-,-,cg,hrow⟩:=ht.strs
 have HC:=Lib.hid hrow;have H:=Lib.hid h;clear ht hrow h
 go_enter Tryz.func247,Tryz.ntmps247
 go_wp2_with fail
 refine(text_any w b s a most (some ⟨tb,tq,none⟩) rc strsL H.out ha hs hm0 hm1 (by decide) (by decide) HC.out strsL_ok).mono ?_
 intro e w1 hh
 clear cg
 obtain⟨hE,hm⟩:=hh
 have HE:=Lib.hid hE
 cases hres:textOf s a most strsL with
 | error k=>
  rw[hres]at hm
  obtain⟨hR,f,rfl,hf,hb⟩:=hm
  have HR:=Lib.hid hR;have HB:=Lib.hid hb;have HRES:=Lib.hid hres;clear hR hb hE hres
  go_wp2
  go_ret2
  rw[HRES.out]
  exact⟨HE.out,HR.out,f,rfl,hf,HB.out⟩
 | ok x=>
  rw[hres]at hm
  obtain⟨rfl,hR⟩:=hm
  have HR:=Lib.hid hR;have HRES:=Lib.hid hres;clear hR hE hres
  go_wp2
  go_ret2
  rw[HRES.out]
  exact⟨HE.out,rfl,HR.out⟩
set_option maxRecDepth 100000 in
theorem Map_any(w:World)(B b:Nat)(s:ByteArray)(a:Nat)(most:Int)(ht:Tabs B w)(h:RdB w b s a most)(ha:a≤s.size)(hs:s.size≤9223372036854775807)(hm0:0≤most)(hm1:most≤9223372036854775807):
  Calls Tryz.prog 245 #[.pointer (some ⟨b,0,none⟩)] w (ReadIs (countOf s a most pairsL) (.int .i64 0) b s most a w):=by
 obtain⟨tb,tq,rc,-,-,-,cg,hrow⟩:=ht.pairs
 have HC:=Lib.hid hrow;have H:=Lib.hid h;clear ht hrow h
 go_enter Tryz.func245,Tryz.ntmps245
 go_wp2_with fail
 refine(count_any w b s a most (some ⟨tb,tq,none⟩) rc pairsL H.out ha hs hm0 hm1 (by decide) (by decide) HC.out pairsL_ok).mono ?_
 intro e w1 hh
 clear cg
 obtain⟨hE,hm⟩:=hh
 have HE:=Lib.hid hE
 cases hres:countOf s a most pairsL with
 | error k=>
  rw[hres]at hm
  obtain⟨hR,f,rfl,hf,hb⟩:=hm
  have HR:=Lib.hid hR;have HB:=Lib.hid hb;have HRES:=Lib.hid hres;clear hR hb hE hres
  go_wp2
  go_ret2
  rw[HRES.out]
  exact⟨HE.out,HR.out,f,rfl,hf,HB.out⟩
 | ok x=>
  rw[hres]at hm
  obtain⟨rfl,hR⟩:=hm
  have HR:=Lib.hid hR;have HRES:=Lib.hid hres;clear hR hE hres
  go_wp2
  go_ret2
  rw[HRES.out]
  exact⟨HE.out,rfl,HR.out⟩
set_option maxRecDepth 100000 in
set_option maxHeartbeats 1000000 in
theorem Num_any(w:World)(B b:Nat)(s:ByteArray)(a:Nat)(most:Int)(ht:Tabs B w)(h:RdB w b s a most)(ha:a≤s.size)(hs:s.size≤9223372036854775807):
  Calls Tryz.prog 208 #[.pointer (some ⟨b,0,none⟩)] w (ReadIs (numOf s a numsL) (.int .u64 0) b s most a w):=by
 obtain⟨tb,tq,rc,-,-,-,cg,hrow⟩:=ht.nums
 have hgl:=lt_of_cell cg;have HC0:=Lib.hid hrow;have H:=Lib.hid h;have hbl:=lt_of_block h;have HG:=Lib.hid cg;clear ht hrow h cg
 go_enter_defers Tryz.func208,Tryz.ntmps208
 go_wp2
 obtain⟨W,hW⟩:∃W,w.alloc (.cells #[.nilIface] 89)=W:=⟨_,rfl⟩
 have WB:Hid (Below w.heap.size w W):=Lib.hid (by rw[←hW];(repeat (first | exact Below.refl _ _ | assumption | (refine bdrew ?_) | (refine bdrewN ?_ _) | (refine balloc ?_ _) | (refine bset ?_ (by first | omega | (simp;done) | (simp;omega)) _) | (refine bnext ?_ (by assumption)))))
 have W0:Hid (W.heap[w.heap.size]?=some (.cells #[.nilIface] 89 (0,0))):=Lib.hid (by rw[←hW];(repeat (first | exact alloc_new_at _ (by repeat (first | rfl | refine alloc_size _ ?_)) | refine block_alloc ?_ _)))
 rw[hW]
 clear hW;have RB:=Lib.hid (H.out.below WB.out);have HC:=Lib.hid (HC0.out.below WB.out);have cg:W.cell? ⟨0,0,none⟩=some (.slice (some ⟨tb,tq,none⟩) (len numsL) rc):=by rw[WB.out.cell (p:=⟨0,0,none⟩) hgl];exact HG.out
 have hzW:=lt_of_block W0.out;have hts:(s.extract a s.size).size≤9223372036854775807:=by rw[ByteArray.size_extract];omega
 cases hres:headOf (s.extract a s.size) numsL with
 | error k=>
  have HRES:=Lib.hid hres;have T:Hid (numOf s a numsL=.error k):=Lib.hid (by unfold numOf;rw[hres]);clear hres
  refine wp_region_tail 5 1000 (none) (phis [λ u _=>u=(.pointer (some ⟨b,0,none⟩)),λ u _=>u=(.string (s.extract a s.size)),λ u _=>u=(.slice (some ⟨tb,tq,none⟩) (len numsL) rc),λ _ _=>False,λ u w'=>∃b',u=.pointer (some ⟨b',0,none⟩)∧w.heap.size<b'∧w'.heap[b']?=some (.cells #[.int .u64 0,.string ⟨#[]⟩] 306 (0,0))]) rfl (by kernel_rfl) (by kernel_rfl) (mono_of ⟨mono_eq,mono_eq,mono_eq,?m3,?m4,trivial⟩) (steps_of 5 ⟨?s0,?s1,?s2,?s3,?s4,trivial⟩) ?_
  case m3=>
   exact⟨λ _ _ _ _ h=>h,λ _ _ _ _ _ h=>h⟩
  case m4=>
   exact⟨λ u w1 w' h ⟨b',h1,h2,h3⟩=>⟨b',h1,h2,ext_block h h3⟩,λ _ u w1 w' h ⟨b',h1,h2,h3⟩=>⟨b',h1,h2,extB_block h (by simp) h3⟩⟩
  case s0=>
   refine qV (λ _=>rfl) rfl λ av wv hE hO hD=>?_
   simp[go_sem,qF av 0 (.pointer (some ⟨b,0,none⟩)) (hO.2.2 0 rfl)]
  case s1=>
   refine step_wp (λ av wv hE hS hO hD=>⟨rfl,?_⟩)
   have f6:=qE (hD.1 rfl _ rfl)
   refine wp_of_call (v:=(.string (s.extract a s.size))) (by simp[go_sem,f6]) (here_any wv b s a most (RB.out.below (of_drew hE)) ha hs) (λ w2 hb=>⟨_,rfl,es_of_ext hb,rfl⟩)
  case s2=>
   refine qV (λ _=>rfl) rfl λ av wv hE hO hD=>?_
   simp[go_sem,extB_cell hE (by simp) cg]
  case s3=>
   refine step_wp (λ av wv hE hS hO hD=>⟨rfl,?_⟩)
   have f7:=qE (hD.1 rfl _ rfl);have f8:=qE (hD.2.1 rfl _ rfl)
   refine wp_of_panic (chain:=chainOf k) (by simp[go_sem,f7,f8]) ((head_any (s.extract a s.size) (some ⟨tb,tq,none⟩) rc numsL wv hts (by decide) (by decide) (HC.out.below (of_drew hE)) numsL_ok).mono (λ e w' hh=>by rw[HRES.out]at hh;exact headIs_err hh)) (λ w2 hb=>?_)
   have g2:av.eval (.tmp 2)=.int .u64 0:=hO.2.2 2 rfl;have g3:av.eval (.tmp 3)=.pointer (some ⟨w.heap.size,0,none⟩):=hO.2.2 3 rfl;have f2:=(ev_form av 2).symm.trans g2;have f3:=(ev_form av 3).symm.trans g3;have B2:=bnext (of_drew hE) hb
   show Leaves _ _ av.tmps _ av.defers _ _
   rw[hO.1]
   refine door_err k b s a most w2 w.heap.size (.int .u64 0) (RB.out.below B2) ((B2.block _ (lt_of_block W0.out)).trans W0.out) (by omega) (λ w hc=>by simp[results,Tryz.results208,go_sem,hc,f2,f3]) (λ w' hE hR hf=>?_)
   have hz:=(bnext WB.out B2).size
   rw[T.out]
   exact⟨extB_own (bnext WB.out B2) hE,hR,_,rfl,hz,hf⟩
  case s4=>
   refine step_wp (λ av wv hE hS hO hD=>⟨rfl,?_⟩)
   refine wp_of_run (v:=.pointer (some ⟨wv.heap.size,0,none⟩)) (w':=wv.alloc (.cells #[.int .u64 0,.string ⟨#[]⟩] 306)) (by simp[go_sem]) ⟨_,rfl,es_of_ext (balloc (Ext_refl _) _),wv.heap.size,rfl,?_,heap_alloc_new _ _⟩
   have:=(of_drew hE).size;omega
  intro a' w' hE hO hall
  have hA:=act_of_outer (ds:=[6,7,8,9,4]) rfl hO (by kernel_rfl)
  obtain⟨j0,j1,j2,j3,j4,-⟩:=hall
  have e9:(λ _ _=>False) (a'.eval (.tmp 9)) w':=j3 _ rfl;have e4:(λ u w'=>∃b',u=.pointer (some ⟨b',0,none⟩)∧w.heap.size<b'∧w'.heap[b']?=some (.cells #[.int .u64 0,.string ⟨#[]⟩] 306 (0,0))) (a'.eval (.tmp 4)) w':=j4 _ rfl
  obtain⟨v9,hv9⟩:∃v,a'.eval (.tmp 9)=v:=⟨_,rfl⟩
  rw[hv9]at e9
  obtain⟨v4,hv4⟩:∃v,a'.eval (.tmp 4)=v:=⟨_,rfl⟩
  rw[hv4]at e4
  simp only[List.foldl_cons,List.foldl_nil,Act.put,List.setIfInBounds_toArray,List.set_cons_succ,List.set_cons_zero,qJ 6 (j0 _ rfl),qJ 7 (j1 _ rfl),qJ 8 (j2 _ rfl),hv9,hv4]at hA
  clear hO j3 j4 j0 j1 j2 hv9 hv4
  subst hA
  exact absurd e9 id
 | ok x=>
  obtain⟨n,rest⟩:=x
  obtain⟨n0,n1,hrest⟩:=head_bd numsL_ok hres
  have HRES:=Lib.hid hres;have hss:(s.extract a s.size).size=s.size - a:=by rw[ByteArray.size_extract];omega
  have hr2:rest.size<s.size - a:=by omega
  have T:Hid (numOf s a numsL=.ok (.int .u64 n,s.size - rest.size)):=Lib.hid (by unfold numOf;rw[hres]);clear hres hrest hss
  refine wp_region_tail 5 1000 (none) (phis [λ u _=>u=(.pointer (some ⟨b,0,none⟩)),λ u _=>u=(.string (s.extract a s.size)),λ u _=>u=(.slice (some ⟨tb,tq,none⟩) (len numsL) rc),λ u _=>u=(.agg #[.int .u64 n,.string rest]),λ u w'=>∃b',u=.pointer (some ⟨b',0,none⟩)∧w.heap.size<b'∧w'.heap[b']?=some (.cells #[.int .u64 0,.string ⟨#[]⟩] 306 (0,0))]) rfl (by kernel_rfl) (by kernel_rfl) (mono_of ⟨mono_eq,mono_eq,mono_eq,mono_eq,?m4,trivial⟩) (steps_of 5 ⟨?s0,?s1,?s2,?s3,?s4,trivial⟩) ?_
  case m4=>
   exact⟨λ u w1 w' h ⟨b',h1,h2,h3⟩=>⟨b',h1,h2,ext_block h h3⟩,λ _ u w1 w' h ⟨b',h1,h2,h3⟩=>⟨b',h1,h2,extB_block h (by simp) h3⟩⟩
  case s0=>
   refine qV (λ _=>rfl) rfl λ av wv hE hO hD=>?_
   simp[go_sem,qF av 0 (.pointer (some ⟨b,0,none⟩)) (hO.2.2 0 rfl)]
  case s1=>
   refine step_wp (λ av wv hE hS hO hD=>⟨rfl,?_⟩)
   have f6:=qE (hD.1 rfl _ rfl)
   refine wp_of_call (v:=(.string (s.extract a s.size))) (by simp[go_sem,f6]) (here_any wv b s a most (RB.out.below (of_drew hE)) ha hs) (λ w2 hb=>⟨_,rfl,es_of_ext hb,rfl⟩)
  case s2=>
   refine qV (λ _=>rfl) rfl λ av wv hE hO hD=>?_
   simp[go_sem,extB_cell hE (by simp) cg]
  case s3=>
   refine step_wp (λ av wv hE hS hO hD=>⟨rfl,?_⟩)
   have f7:=qE (hD.1 rfl _ rfl);have f8:=qE (hD.2.1 rfl _ rfl)
   refine wp_of_call (v:=(.agg #[.int .u64 n,.string rest])) (by simp[go_sem,f7,f8]) ((head_any (s.extract a s.size) (some ⟨tb,tq,none⟩) rc numsL wv hts (by decide) (by decide) (HC.out.below (of_drew hE)) numsL_ok).mono (λ e w' hh=>by rw[HRES.out]at hh;exact headIs_ok hh)) (λ w2 hb=>⟨_,rfl,es_of_ext hb,rfl⟩)
  case s4=>
   refine step_wp (λ av wv hE hS hO hD=>⟨rfl,?_⟩)
   refine wp_of_run (v:=.pointer (some ⟨wv.heap.size,0,none⟩)) (w':=wv.alloc (.cells #[.int .u64 0,.string ⟨#[]⟩] 306)) (by simp[go_sem]) ⟨_,rfl,es_of_ext (balloc (Ext_refl _) _),wv.heap.size,rfl,?_,heap_alloc_new _ _⟩
   have:=(of_drew hE).size;omega
  intro a' w' hE hO hall
  have hA:=act_of_outer (ds:=[6,7,8,9,4]) rfl hO (by kernel_rfl)
  obtain⟨j0,j1,j2,j3,j4,-⟩:=hall
  have e4:(λ u w'=>∃b',u=.pointer (some ⟨b',0,none⟩)∧w.heap.size<b'∧w'.heap[b']?=some (.cells #[.int .u64 0,.string ⟨#[]⟩] 306 (0,0))) (a'.eval (.tmp 4)) w':=j4 _ rfl
  obtain⟨v4,hv4⟩:∃v,a'.eval (.tmp 4)=v:=⟨_,rfl⟩
  rw[hv4]at e4
  simp only[List.foldl_cons,List.foldl_nil,Act.put,List.setIfInBounds_toArray,List.set_cons_succ,List.set_cons_zero,qJ 6 (j0 _ rfl),qJ 7 (j1 _ rfl),qJ 8 (j2 _ rfl),qJ 9 (j3 _ rfl),hv4]at hA
  clear hO j4 j0 j1 j2 j3 hv4
  subst hA
  obtain⟨tk,rfl,ht1,ht2⟩:=e4
  have B1:=Lib.hid (of_drew hE);have x0:∀o,w'.cell? ⟨tk,o,none⟩=_:=block_cell ht2;have x1:∀o,w'.frozen? ⟨tk,o,none⟩=false:=block_free ht2;have HT2:=Lib.hid ht2;have E1:Hid (w'.heap[w.heap.size]?=some (.cells #[.nilIface] 89 (0,0))):=Lib.hid ((B1.out.block _ hzW).trans W0.out);clear hE ht2 cg
  go_upto_region 3 with fail
  obtain⟨V,hV⟩:∃V,(w'.setCell ⟨tk,0,none⟩ (.int .u64 n)).setCell ⟨tk,1,none⟩ (.string rest)=V:=⟨_,rfl⟩
  have hne:b≠tk:=by omega
  have hne2:w.heap.size≠tk:=by omega
  have VR:Hid (RdB V b s a most):=Lib.hid (by rw[←hV];exact block_setCell_ne (block_setCell_ne (RB.out.below B1.out) hne _) hne _);have VE:Hid (V.heap[w.heap.size]?=some (.cells #[.nilIface] 89 (0,0))):=Lib.hid (by rw[←hV];exact block_setCell_ne (block_setCell_ne E1.out hne2 _) hne2 _);have VT:Hid (V.heap[tk]?=some (.cells #[.int .u64 n,.string rest] 306 (0,0))):=Lib.hid (by rw[←hV];exact block_setCell (block_setCell HT2.out _) _);have VX:Hid (Below w.heap.size w V):=Lib.hid (by rw[←hV];exact bset (bset (bnext WB.out B1.out) (by show w.heap.size≤tk;omega) _) (by show w.heap.size≤tk;omega) _)
  rw[hV]
  clear hV x0 x1 HT2 E1 RB;have y1:V.cell? ⟨tk,1,none⟩=some (.string rest):=block_cell VT.out 1
  go_wp2_with fail
  refine(behind_any _ b s a rest.size most VR.out hs (by omega) (by omega)).mono ?_
  rintro e w5 ⟨rfl,hw5⟩
  have R5:Hid (RdB w5 b s ((s.size - rest.size:Nat):Int) most):=Lib.hid (by
   rw[hw5]
   have h:=block_setCell VR.out (o:=1) (.int .i64 ((s.size:Int) - rest.size))
   rw[show((s.size - rest.size:Nat):Int)=(s.size:Int) - rest.size by omega]
   exact h)
  have E5:w5.heap[w.heap.size]?=some (.cells #[.nilIface] 89 (0,0)):=by
   rw[hw5];exact block_setCell_ne VE.out (by show w.heap.size≠b;omega) _
  have N5:w5.heap[tk]?=some (.cells #[.int .u64 n,.string rest] 306 (0,0)):=by
   rw[hw5];exact block_setCell_ne VT.out (by show tk≠b;omega) _
  have X5:Hid (ExtB (some b) w w5):=Lib.hid (by
   rw[hw5]
   have hB:=VX.out
   exact⟨hB.os,hB.tape,hB.output,by simpa using hB.size,λ i hi hn=>by rw[Below.heap_setCell _ _ _ _ (by exact λ e=>hn (by rw[e]))];exact hB.block i hi⟩)
  have a0:w5.cell? ⟨tk,0,none⟩=some (.int .u64 n):=block_cell N5 0;have a2:w5.cell? ⟨w.heap.size,0,none⟩=some .nilIface:=block_cell E5 0;have a3:w5.frozen? ⟨w.heap.size,0,none⟩=false:=block_free E5 0;have hz5:=lt_of_block E5;clear hw5 E5 N5 y1
  go_wp2
  rw[T.out]
  refine leaves_cons (f:=264) (args:=#[.pointer (some ⟨b,0,none⟩),.pointer (some ⟨w.heap.size,0,none⟩)]) (by simp) (by simp[go_sem]) ?_
  refine(fault_idle (.pointer (some ⟨b,0,none⟩)) (.pointer (some ⟨w.heap.size,0,none⟩)) _).mono ?_
  rintro e u' w'' ⟨rfl,rfl,rfl⟩
  refine⟨_,by simp[results,Tryz.results208,go_sem,a2];rfl,?_⟩
  refine⟨?_,rfl,?_⟩
  ·exact ext_set X5.out (Nat.le_refl _) _
  ·exact block_setCell_ne R5.out (by show b≠w.heap.size;omega) _
end Go.Proofs.YtpobhbdomldecaaGreatDoor
namespace Go.Proofs.YtpobhbdomldecaaGreatDoor
set_option linter.unusedSimpArgs false
set_option linter.unusedVariables false
open Go.RowKit Go.Extern.Stop Go.Stop Go.Extern
theorem run_equalIn_int(w:World){P:Program}(d:Nat){ti tn:TypeId}{ms:Array (String × TypeId)}{i:TypeInfo}{k:IntKind}(a b:Int)
  (hi:P.underlying ti=some (.interface ms)) (hn:P.underlying tn=some (.int k)) (hinfo:P.info? tn=some i) (hcomp:i.comparable=true):
  (Op.equalIn (d+2) ti (.iface tn (.int k a)) (.iface tn (.int k b))).run P w=.ok (a == b) w:=by
 simp[Op.equalIn,run_underlying hi,run_underlying hn,typeInfo,hinfo,hcomp]
theorem run_eql_int{P:Program}{ti tn:TypeId}{ms:Array (String × TypeId)}{i:TypeInfo}{k:IntKind}(a b:Int)
  (hi:P.underlying ti=some (.interface ms)) (hn:P.underlying tn=some (.int k)) (hinfo:P.info? tn=some i) (hcomp:i.comparable=true) (w:World):
  (binOp .eql ti (.iface tn (.int k a)) (.iface tn (.int k b))).run P w=.ok (.bool (a == b)) w:=by
 simp only[binOp]
 simp[Op.equal,Op.maxDepth,run_equalIn_int w 9998 a b hi hn hinfo hcomp]
theorem rtOf(gs:Nat)(hg:gs=Tryz.prog.globals.size)(t:TypeId)(v:Value)(w:World)(ht:t=27 ∨ t=290):(Extern.ReflectliteType.typeOf #[.iface t v]).run Tryz.prog w=.ok (.iface 349 (.agg #[.pointer (some ⟨gs,t,none⟩)])) w:=by
 subst hg
 rcases ht with rfl | rfl <;> kernel_rfl
theorem rtComparable(gs:Nat)(hg:gs=Tryz.prog.globals.size)(w:World):((Extern.ReflectliteType.method λ t=>do Extern.Rtype.noPackHeld "Comparable" t;(λ a=>Value.bool a.comparable) <$> typeInfo t) #[.agg #[.pointer (some ⟨gs,27,none⟩)]]).run Tryz.prog w=.ok (.bool true) w:=by
 subst hg;kernel_rfl
theorem rtMethodComparable(n:Nat)(v:Value)(w:World):(Go.method (n+1) 349 v "Comparable").run Tryz.prog w=.ok (344,v) w:=by kernel_rfl
theorem errnoComp:(Tryz.prog.info? 27).map (·.comparable)=some true:=by kernel_rfl
theorem noIsF(v:Value)(xT:TypeId)(w:World):(Instr.typeAssert (.iface 290 v) xT 351 true).run Tryz.prog w=.ok (.tuple #[.nilIface,.bool false]) w:=run_typeAssert_lacksB Tryz.underlying351 (by kernel_rfl) (by kernel_rfl) v xT w
theorem hasUnwrapF(v:Value)(xT:TypeId)(w:World):(Instr.typeAssert (.iface 290 v) xT 354 true).run Tryz.prog w=.ok (.tuple #[.iface 290 v,.bool true]) w:=run_typeAssert_hasB Tryz.underlying354 (by kernel_rfl) v xT w
theorem noIsE(v:Value)(xT:TypeId)(w:World):(Instr.typeAssert (.iface 27 v) xT 351 true).run Tryz.prog w=.ok (.tuple #[.nilIface,.bool false]) w:=run_typeAssert_lacksB Tryz.underlying351 (by kernel_rfl) (by kernel_rfl) v xT w
theorem noUnwrapE(v:Value)(xT:TypeId)(w:World):(Instr.typeAssert (.iface 27 v) xT 354 true).run Tryz.prog w=.ok (.tuple #[.nilIface,.bool false]) w:=run_typeAssert_lacksB Tryz.underlying354 (by kernel_rfl) (by kernel_rfl) v xT w
theorem noUnwrapsE(v:Value)(xT:TypeId)(w:World):(Instr.typeAssert (.iface 27 v) xT 355 true).run Tryz.prog w=.ok (.tuple #[.nilIface,.bool false]) w:=run_typeAssert_lacksB Tryz.underlying355 (by kernel_rfl) (by kernel_rfl) v xT w
theorem methodUnwrapF(n:Nat)(v:Value)(w:World):(Go.method (n+1) 290 v "Unwrap").run Tryz.prog w=.ok (338,v) w:=by kernel_rfl
set_option maxRecDepth 100000 in
set_option maxHeartbeats 1000000 in
theorem is_fault(f:Nat)(k e:Int)(w:World)(h:w.cell? ⟨f,0,none⟩=some (.int .i64 k)):
  Calls Tryz.prog 253 #[.iface 290 (.pointer (some ⟨f,0,none⟩)),.iface 27 (.int .i64 e)] w λ x w'=>x=.returned (.bool (k == e))∧w'=w:=by
 obtain⟨i,hi,hcmp⟩:=Option.map_eq_some_iff.1 errnoComp
 have h8:=@run_callFunc_extern Tryz.prog 283 _ Extern.ReflectliteType.typeOf Tryz.func283 (by kernel_rfl) (by kernel_rfl) (by kernel_rfl) (by kernel_rfl);have h32:=@run_callFunc_extern Tryz.prog 344 _ (Extern.ReflectliteType.method λ t=>do Extern.Rtype.noPackHeld "Comparable" t;pure (.bool (←typeInfo t).comparable)) Tryz.func344 (by kernel_rfl) (by kernel_rfl) (by kernel_rfl) (by kernel_rfl)
 obtain⟨gs,hg⟩:∃gs,gs=Tryz.prog.globals.size:=⟨_,rfl⟩
 have tT:=λ w=>rtOf gs hg 27 (.int .i64 e) w (.inl rfl);have cT:=rtComparable gs hg;clear hg;have mR:=rtMethodComparable;have n1:=noIsF;have n2:=hasUnwrapF;have n3:=noIsE;have n4:=noUnwrapE;have n5:=noUnwrapsE;have n6:=methodUnwrapF;have q1:=fun (w:World)=>run_eql_iface_types (P:=Tryz.prog) 290 27 (.pointer (some ⟨f,0,none⟩)) (.int .i64 e) Tryz.underlying89 (by decide) w;have q2:=run_eql_int (P:=Tryz.prog) k e Tryz.underlying89 Tryz.underlying27 hi hcmp
 go_enter Tryz.func253,Tryz.ntmps253
 cases hke:k == e
 all_goals
  rw[hke]at q2
  go_wp2
  refine wp_loop_rounds 2 ?_
  rw[rounds_succ]
  go_wp2
  rw[rounds_succ]
  go_wp2
  go_ret
  exact⟨rfl,rfl⟩
theorem is_none(e:Int)(w:World):Calls Tryz.prog 253 #[.nilIface,.iface 27 (.int .i64 e)] w λ x w'=>x=.returned (.bool false)∧w'=w:=by
 have hn:=run_eql_iface_nil_left (P:=Tryz.prog) w 27 (.int .i64 e) Tryz.underlying89
 go_enter Tryz.func253,Tryz.ntmps253
 go_wp2
 go_ret
 exact⟨rfl,rfl⟩
theorem as_none(v:Value)(w:World):Calls Tryz.prog 254 #[.nilIface,v] w λ x w'=>x=.returned (.bool false)∧w'=w:=by
 go_enter Tryz.func254,Tryz.ntmps254
 go_wp2
 go_ret
 exact⟨rfl,rfl⟩
theorem vOfF(gs:Nat)(hg:gs=Tryz.prog.globals.size)(x:Nat)(w:World):(Extern.ReflectliteValue.unpack (.iface 290 (.pointer (some ⟨x,0,none⟩)))).run Tryz.prog w=.ok (.agg #[.pointer (some ⟨gs,290,none⟩),.pointer (some ⟨w.heap.size,0,none⟩),.int .u64 150]) (w.alloc (.cells #[.pointer (some ⟨x,0,none⟩)] 290)):=by
 subst hg;kernel_rfl
theorem vOfFF(gs:Nat)(hg:gs=Tryz.prog.globals.size)(x:Nat)(w:World):(Extern.ReflectliteValue.unpack (.iface 293 (.pointer (some ⟨x,0,none⟩)))).run Tryz.prog w=.ok (.agg #[.pointer (some ⟨gs,293,none⟩),.pointer (some ⟨w.heap.size,0,none⟩),.int .u64 150]) (w.alloc (.cells #[.pointer (some ⟨x,0,none⟩)] 293)):=by
 subst hg;kernel_rfl
theorem vType(gs:Nat)(hg:gs=Tryz.prog.globals.size)(a:Addr)(w:World):(Extern.ReflectliteValue.methodAny (Extern.ReflectliteValue.valueError "reflectlite.Value.Type" 0) (λ t _ _ _=>Extern.ReflectliteType.toType t) #[(.agg #[.pointer (some ⟨gs,293,none⟩),.pointer (some a),.int .u64 150])]).run Tryz.prog w=.ok (.iface 349 (.agg #[.pointer (some ⟨gs,293,none⟩)])) w:=by
 subst hg;kernel_rfl
theorem mKind(gs:Nat)(hg:gs=Tryz.prog.globals.size)(n:Nat)(w:World):(Go.method (n+1) 349 (.agg #[.pointer (some ⟨gs,293,none⟩)]) "Kind").run Tryz.prog w=.ok (330,.pointer (some ⟨gs,293,none⟩)) w:=by
 subst hg;kernel_rfl
theorem mKindF(gs:Nat)(hg:gs=Tryz.prog.globals.size)(n:Nat)(w:World):(Go.method (n+1) 349 (.agg #[.pointer (some ⟨gs,290,none⟩)]) "Kind").run Tryz.prog w=.ok (330,.pointer (some ⟨gs,290,none⟩)) w:=by
 subst hg;kernel_rfl
theorem mElem(n:Nat)(v:Value)(w:World):(Go.method (n+1) 349 v "Elem").run Tryz.prog w=.ok (345,v) w:=by kernel_rfl
theorem mImpl(n:Nat)(v:Value)(w:World):(Go.method (n+1) 349 v "Implements").run Tryz.prog w=.ok (346,v) w:=by kernel_rfl
theorem mAssign(n:Nat)(v:Value)(w:World):(Go.method (n+1) 349 v "AssignableTo").run Tryz.prog w=.ok (343,v) w:=by kernel_rfl
theorem rElem(gs:Nat)(hg:gs=Tryz.prog.globals.size)  (w:World):(Extern.ReflectliteType.method Extern.ReflectliteType.elem #[(.agg #[.pointer (some ⟨gs,293,none⟩)])]).run Tryz.prog w=.ok (.iface 349 (.agg #[.pointer (some ⟨gs,290,none⟩)])) w:=by
 subst hg;kernel_rfl
theorem rAssign(gs:Nat)(hg:gs=Tryz.prog.globals.size)  (w:World):(Extern.ReflectliteType.relation "AssignableTo" Extern.ReflectliteType.assignableTo #[(.agg #[.pointer (some ⟨gs,290,none⟩)]),.iface 349 (.agg #[.pointer (some ⟨gs,290,none⟩)])]).run Tryz.prog w=.ok (.bool true) w:=by
 subst hg;kernel_rfl
theorem rImpl(gs:Nat)(hg:gs=Tryz.prog.globals.size)  (w:World):(Extern.ReflectliteType.relation "Implements" Extern.ReflectliteType.implements_ #[(.agg #[.pointer (some ⟨gs,290,none⟩)]),.iface 349 (.agg #[.pointer (some ⟨gs,89,none⟩)])]).run Tryz.prog w=.ok (.bool true) w:=by
 subst hg;kernel_rfl
theorem kKind(gs:Nat)(hg:gs=Tryz.prog.globals.size)  (w:World):(Extern.ReflectliteType.abiMethod (λ t=>(λ a=>Value.int IntKind.u8 ((a:Nat):Int)) <$> Extern.Rtype.kind t) #[.pointer (some ⟨gs,293,none⟩)]).run Tryz.prog w=.ok (.int .u8 22) w:=by
 subst hg;kernel_rfl
theorem kKindF(gs:Nat)(hg:gs=Tryz.prog.globals.size)  (w:World):(Extern.ReflectliteType.abiMethod (λ t=>(λ a=>Value.int IntKind.u8 ((a:Nat):Int)) <$> Extern.Rtype.kind t) #[.pointer (some ⟨gs,290,none⟩)]).run Tryz.prog w=.ok (.int .u8 22) w:=by
 subst hg;kernel_rfl
theorem partsFF(gs:Nat)(hg:gs=Tryz.prog.globals.size)(a:Addr)(w:World):(Extern.ReflectliteValue.parts (.agg #[.pointer (some ⟨gs,293,none⟩),.pointer (some a),.int .u64 150])).run Tryz.prog w=.ok (some (293,a,150)) w:=by
 subst hg;kernel_rfl
theorem partsF(gs:Nat)(hg:gs=Tryz.prog.globals.size)(a:Addr)(w:World):(Extern.ReflectliteValue.parts (.agg #[.pointer (some ⟨gs,290,none⟩),.pointer (some a),.int .u64 150])).run Tryz.prog w=.ok (some (290,a,150)) w:=by
 subst hg;kernel_rfl
theorem partsFa(gs:Nat)(hg:gs=Tryz.prog.globals.size)(a:Addr)(w:World):(Extern.ReflectliteValue.parts (.agg #[.pointer (some ⟨gs,290,none⟩),.pointer (some a),.int .u64 406])).run Tryz.prog w=.ok (some (290,a,406)) w:=by
 subst hg;kernel_rfl
theorem elemFF(w:World):(Extern.Rtype.elem? 293).run Tryz.prog w=.ok (some 290) w:=by kernel_rfl
theorem mkF(gs:Nat)(hg:gs=Tryz.prog.globals.size)(p:Addr)(w:World):(Extern.ReflectliteValue.mk 290 p Extern.ReflectliteValue.flagAddr).run Tryz.prog w=.ok (.agg #[.pointer (some ⟨gs,290,none⟩),.pointer (some p),.int .u64 406]) w:=by
 subst hg;kernel_rfl
theorem directF(w:World):(Extern.Rtype.directlyAssignable 290 290).run Tryz.prog w=.ok true w:=by kernel_rfl
theorem loadFF(b:Nat)(p:Addr)(w:World)(h:w.cell? ⟨b,0,none⟩=some (.pointer (some p))):(loadVar 293 ⟨b,0,none⟩).run Tryz.prog w=.ok (.pointer (some p)) w:=by
 simp[go_sem,h]
theorem vIsNil(gs:Nat)(hg:gs=Tryz.prog.globals.size)(b:Nat)(p:Addr)(w:World)(h:w.cell? ⟨b,0,none⟩=some (.pointer (some p))):(Extern.ReflectliteValue.method (Extern.ReflectliteValue.valueError "reflectlite.Value.IsNil" 0) Extern.ReflectliteValue.isNil #[(.agg #[.pointer (some ⟨gs,293,none⟩),.pointer (some ⟨b,0,none⟩),.int .u64 150])]).run Tryz.prog w=.ok (.bool false) w:=by
 change (do
  match ←Extern.ReflectliteValue.parts (.agg #[.pointer (some ⟨gs,293,none⟩),.pointer (some ⟨b,0,none⟩),.int .u64 150])with
  | none=>Extern.ReflectliteValue.valueError "reflectlite.Value.IsNil" 0
  | some (t,a,fl)=>Extern.ReflectliteValue.isNil t a fl (fl % 32):Sem Value).run Tryz.prog w=_
 simp[partsFF gs hg,Extern.ReflectliteValue.isNil,loadFF b p w h]
theorem vElem(gs:Nat)(hg:gs=Tryz.prog.globals.size)(b:Nat)(p:Addr)(w:World)(h:w.cell? ⟨b,0,none⟩=some (.pointer (some p))):(Extern.ReflectliteValue.method (Extern.ReflectliteValue.valueError "reflectlite.Value.Elem" 0) Extern.ReflectliteValue.elem #[(.agg #[.pointer (some ⟨gs,293,none⟩),.pointer (some ⟨b,0,none⟩),.int .u64 150])]).run Tryz.prog w=.ok (.agg #[.pointer (some ⟨gs,290,none⟩),.pointer (some p),.int .u64 406]) w:=by
 change (do
  match ←Extern.ReflectliteValue.parts (.agg #[.pointer (some ⟨gs,293,none⟩),.pointer (some ⟨b,0,none⟩),.int .u64 150])with
  | none=>Extern.ReflectliteValue.valueError "reflectlite.Value.Elem" 0
  | some (t,a,fl)=>Extern.ReflectliteValue.elem t a fl (fl % 32):Sem Value).run Tryz.prog w=_
 simp[partsFF gs hg,Extern.ReflectliteValue.elem,elemFF,mkF gs hg,loadFF b p w h]
theorem vSet(gs:Nat)(hg:gs=Tryz.prog.globals.size)(tb b:Nat)(x:Value)(p:Addr)(w:World)(h:w.cell? ⟨b,0,none⟩=some (.pointer (some p)))(hx:w.cell? ⟨tb,0,none⟩=some x)(hz:w.frozen? ⟨tb,0,none⟩=false):
  (Extern.ReflectliteValue.set #[(.agg #[.pointer (some ⟨gs,290,none⟩),.pointer (some ⟨tb,0,none⟩),.int .u64 406]),(.agg #[.pointer (some ⟨gs,290,none⟩),.pointer (some ⟨b,0,none⟩),.int .u64 150])]).run Tryz.prog w=.ok (.tuple #[]) (w.setCell ⟨tb,0,none⟩ (.pointer (some p))):=by
 have l61:(loadVar 290 ⟨b,0,none⟩).run Tryz.prog w=.ok (.pointer (some p)) w:=by simp[go_sem,h]
 have s61:(storeVar 290 ⟨tb,0,none⟩ (.pointer (some p))).run Tryz.prog w=.ok () (w.setCell ⟨tb,0,none⟩ (.pointer (some p))):=by simp[go_sem,hx,hz]
 change (do
  let (some (dst,a,fl),some (src,b,_)):=(←Extern.ReflectliteValue.parts (.agg #[.pointer (some ⟨gs,290,none⟩),.pointer (some ⟨tb,0,none⟩),.int .u64 406]),←Extern.ReflectliteValue.parts (.agg #[.pointer (some ⟨gs,290,none⟩),.pointer (some ⟨b,0,none⟩),.int .u64 150]))
   | unsupported (.noEntry _)
  if fl / Extern.ReflectliteValue.flagAddr % 2 == 0 then unsupported (.noEntry _)
  let val ←loadVar src b
  if ←Extern.Rtype.directlyAssignable dst src then storeVar dst a val
  else if ←Extern.Rtype.implements dst src then
   if(←Extern.Rtype.kind src) == 20 then
    match val with
    | .nilIface=>unsupported (.noEntry _)
    | _=>storeVar dst a val
   else storeVar dst a (.iface src val)
  else panicString (_++(←Extern.Rtype.spelt src)++_++(←Extern.Rtype.spelt dst))
  pure (.tuple #[]):Sem Value).run Tryz.prog w=_
 simp[partsF gs hg,partsFa gs hg,l61,directF,s61,Extern.ReflectliteValue.flagAddr]
theorem ext_setb{w w1:World}{tb:Nat}(h:Below w.heap.size w w1)(v:Value):ExtB (some tb) w (w1.setCell ⟨tb,0,none⟩ v):=
 ⟨h.os,h.tape,h.output,by simpa using h.size,λ i hi hn=>by rw[Below.heap_setCell _ _ _ _ (by show i≠tb;exact λ e=>hn (by rw[e]))];exact h.block i hi⟩
def ErrType(w:World):Prop:=w.cell? ⟨3,0,none⟩=some (.iface 349 (.agg #[.pointer (some ⟨Tryz.prog.globals.size,89,none⟩)]))
set_option maxRecDepth 100000 in
set_option maxHeartbeats 2000000 in
theorem as_fault(f tb:Nat)(q:Option Addr)(w:World)(he:ErrType w)(ht:w.heap[tb]?=some (.cells #[.pointer q] 290 (0,0))):
  Calls Tryz.prog 254 #[.iface 290 (.pointer (some ⟨f,0,none⟩)),.iface 293 (.pointer (some ⟨tb,0,none⟩))] w λ x w'=>x=.returned (.bool true)∧ExtB (some tb) w w'∧w'.heap[tb]?=some (.cells #[.pointer (some ⟨f,0,none⟩)] 290 (0,0)):=by
 obtain⟨gs,hg⟩:∃gs,gs=Tryz.prog.globals.size:=⟨_,rfl⟩
 have ce:w.cell? ⟨3,0,none⟩=some (.iface 349 (.agg #[.pointer (some ⟨gs,89,none⟩)])):=by rw[hg];exact he
 have hel:=lt_of_cell ce;have ct:w.cell? ⟨tb,0,none⟩=some (.pointer q):=block_cell ht 0;have cz:w.frozen? ⟨tb,0,none⟩=false:=block_free ht 0;have htl:=lt_of_block ht;have HT:=Lib.hid ht;clear he ht;have x31:=@run_callFunc_extern Tryz.prog 285 _ (λ args=>Extern.ReflectliteValue.unpack (args.getD 0 (.tuple #[]))) Tryz.func285 (by kernel_rfl) (by kernel_rfl) (by kernel_rfl) (by kernel_rfl);have x32:=@run_callFunc_extern Tryz.prog 286 _ (Extern.ReflectliteValue.methodAny (Extern.ReflectliteValue.valueError "reflectlite.Value.Type" 0) λ t _ _ _=>Extern.ReflectliteType.toType t) Tryz.func286 (by kernel_rfl) (by kernel_rfl) (by kernel_rfl) (by kernel_rfl);have x33:=@run_callFunc_extern Tryz.prog 287 _ (Extern.ReflectliteValue.method (Extern.ReflectliteValue.valueError "reflectlite.Value.IsNil" 0) Extern.ReflectliteValue.isNil) Tryz.func287 (by kernel_rfl) (by kernel_rfl) (by kernel_rfl) (by kernel_rfl);have x35:=@run_callFunc_extern Tryz.prog 283 _ (Extern.ReflectliteType.typeOf) Tryz.func283 (by kernel_rfl) (by kernel_rfl) (by kernel_rfl) (by kernel_rfl);have x40:=@run_callFunc_extern Tryz.prog 297 _ (Extern.ReflectliteValue.method (Extern.ReflectliteValue.valueError "reflectlite.Value.Elem" 0) Extern.ReflectliteValue.elem) Tryz.func297 (by kernel_rfl) (by kernel_rfl) (by kernel_rfl) (by kernel_rfl);have x41:=@run_callFunc_extern Tryz.prog 298 _ (Extern.ReflectliteValue.set) Tryz.func298 (by kernel_rfl) (by kernel_rfl) (by kernel_rfl) (by kernel_rfl);have x56:=@run_callFunc_extern Tryz.prog 330 _ (Extern.ReflectliteType.abiMethod λ t=>do pure (.int .u8 (←Extern.Rtype.kind t))) Tryz.func330 (by kernel_rfl) (by kernel_rfl) (by kernel_rfl) (by kernel_rfl);have x66:=@run_callFunc_extern Tryz.prog 343 _ (Extern.ReflectliteType.relation "AssignableTo" Extern.ReflectliteType.assignableTo) Tryz.func343 (by kernel_rfl) (by kernel_rfl) (by kernel_rfl) (by kernel_rfl);have x68:=@run_callFunc_extern Tryz.prog 345 _ (Extern.ReflectliteType.method Extern.ReflectliteType.elem) Tryz.func345 (by kernel_rfl) (by kernel_rfl) (by kernel_rfl) (by kernel_rfl);have x69:=@run_callFunc_extern Tryz.prog 346 _ (Extern.ReflectliteType.relation "Implements" Extern.ReflectliteType.implements_) Tryz.func346 (by kernel_rfl) (by kernel_rfl) (by kernel_rfl) (by kernel_rfl);have y1:=vOfF gs hg f;have y2:=vOfFF gs hg tb;have y3:=vType gs hg;have y4:=mKind gs hg;have y5:=mKindF gs hg;have y6:=mElem;have y7:=mImpl;have y8:=mAssign;have y9:=rElem gs hg;have y10:=rAssign gs hg;have y11:=rImpl gs hg;have y12:=kKind gs hg;have y13:=kKindF gs hg;have y14:=fun (w:World)=>rtOf gs hg 290 (.pointer (some ⟨f,0,none⟩)) w (.inr rfl);have y15:=fun (b:Nat) (w:World) h=>vIsNil gs hg b ⟨tb,0,none⟩ w h;have y16:=fun (X Y:Obj)=>vElem gs hg w.heap.size ⟨tb,0,none⟩ (((w.alloc (.cells #[.pointer (some ⟨tb,0,none⟩)] 293)).alloc X).alloc Y) (block_cell (block_alloc (block_alloc (heap_alloc_new w _) _) _) 0);have y17:=fun (X Y:Obj)=>vSet gs hg tb (w.heap.size+1+1+1) (.pointer q) ⟨f,0,none⟩ ((((w.alloc (.cells #[.pointer (some ⟨tb,0,none⟩)] 293)).alloc X).alloc Y).alloc (.cells #[.pointer (some ⟨f,0,none⟩)] 290))
  (block_cell (alloc_new_at _ (alloc_size _ (alloc_size _ (alloc_size _ rfl)))) 0) (block_cell (block_alloc (block_alloc (block_alloc (block_alloc HT.out _) _) _) _) 0) (block_free (block_alloc (block_alloc (block_alloc (block_alloc HT.out _) _) _) _) 0)
 clear hg
 go_enter Tryz.func254,Tryz.ntmps254
 go_wp2
 refine wp_loop_rounds 1 ?_
 rw[rounds_succ]
 go_wp2
 go_ret
 refine⟨rfl,?_,?_⟩
 ·exact ext_setb (by(repeat (first | exact Below.refl _ _ | assumption | (refine bdrew ?_) | (refine bdrewN ?_ _) | (refine balloc ?_ _) | (refine bset ?_ (by first | omega | (simp;done) | (simp;omega)) _) | (refine bnext ?_ (by assumption))))) _
 ·exact block_setCell (block_alloc (block_alloc (block_alloc (block_alloc HT.out _) _) _) _) _
end Go.Proofs.YtpobhbdomldecaaGreatDoor
namespace Go.Proofs.YtpobhbdomldecaaGreatDoor
set_option linter.unusedSimpArgs false
set_option linter.unusedVariables false
open Go.RowKit
def FltB(w:World)(f:Nat)(k:Int)(a:Nat):Prop:=w.heap[f]?=some (.cells #[.int .i64 k,.int .i64 a] 145 (0,0))
theorem FltB.below{w w':World}{f:Nat}{k:Int}{a:Nat}(h:FltB w f k a)(hb:Below w.heap.size w w'):FltB w' f k a:=(hb.block _ (lt_of_block h)).trans h
theorem ErrType.below{w w':World}(h:ErrType w)(hb:Below w.heap.size w w'):ErrType w':=by
 unfold ErrType at *
 rw[hb.cell (p:=⟨_,0,none⟩) (lt_of_cell h)];exact h
def LeftIs(k:Option Int)(b:Nat)(s:ByteArray)(most:Int)(a:Nat)(w:World)(e:Ending)(w':World):Prop:=
 Below w.heap.size w w'∧match k with
  | none=>e=.returned .nilIface
  | some k=>∃f,e=.returned (.iface 290 (.pointer (some ⟨f,0,none⟩)))∧w.heap.size≤f∧FltB w' f k a
def leftOf(s:ByteArray)(a:Nat):Option Int:=if a<s.size then some 5 else none
theorem empty_of{t:ByteArray}(h:t.size=0):t.toList.isEmpty=true:=by
 rw[ByteArray.toList_eq];cases t with | mk d=>simp_all [ByteArray.size]
theorem full_of{t:ByteArray}(h:t.size≠0):t.toList.isEmpty=false:=by
 rw[ByteArray.toList_eq];cases t with | mk d=>simp_all [ByteArray.size]
theorem ext_empty(s:ByteArray)(a:Nat)(h:¬a<s.size):(s.extract a s.size).toList.isEmpty=true:=empty_of (by rw[ByteArray.size_extract];omega)
theorem ext_some(s:ByteArray)(a:Nat)(h:a<s.size):(s.extract a s.size).toList.isEmpty=false:=full_of (by rw[ByteArray.size_extract];omega)
theorem door_left{fn:Func}{tmps:Array Value}{R:Ending→World→Prop}(k:Int)(b:Nat)(s:ByteArray)(a:Nat)(most:Int)(w1:World)(eb:Nat)(h:RdB w1 b s a most)
  (he:w1.heap[eb]?=some (.cells #[.nilIface] 89 (0,0)))
  (hr:∀w:World,w.cell? ⟨eb,0,none⟩=some (.iface 290 (.pointer (some ⟨w1.heap.size,0,none⟩)))→(results fn tmps).run Tryz.prog w=.ok (.iface 290 (.pointer (some ⟨w1.heap.size,0,none⟩))) w)
  (hR:∀w':World,ExtB (some eb) w1 w'→w'.heap[w1.heap.size]?=some (.cells #[.int .i64 k,.int .i64 a] 145 (0,0))→R (.returned (.iface 290 (.pointer (some ⟨w1.heap.size,0,none⟩)))) w'):
  Leaves Tryz.prog fn tmps R [{ target:=.fn (.func 264) #[],args:=#[.pointer (some ⟨b,0,none⟩),.pointer (some ⟨eb,0,none⟩)] }] (.panicking (chainOf k)) w1:=by
 refine leaves_cons (f:=264) (args:=#[.pointer (some ⟨b,0,none⟩),.pointer (some ⟨eb,0,none⟩)]) (by simp) (by simp[go_sem]) ?_
 refine(fault_some k [] (.pointer (some ⟨b,0,none⟩)) a eb .nilIface w1 (place_any w1 b s a most h) (block_cell he 0) rfl (block_free he 0)).mono ?_
 rintro e u' w'' ⟨rfl,rfl,rfl⟩
 have hl:=lt_of_block he;have hs:(w1.setCell ⟨eb,0,none⟩ (.iface 290 (.pointer (some ⟨w1.heap.size,0,none⟩)))).heap.size=w1.heap.size:=by simp
 have hb0:(w1.setCell ⟨eb,0,none⟩ (.iface 290 (.pointer (some ⟨w1.heap.size,0,none⟩)))).heap[eb]?=_:=block_setCell he _;have hb:=block_alloc hb0 (.cells #[.int .i64 k,.int .i64 a] 145)
 refine⟨_,hr _ (block_cell hb 0),hR _ ?_ ?_⟩
 ·refine⟨rfl,rfl,rfl,by simp,λ i hi hn=>?_⟩
  rw[Below.heap_alloc _ _ _ (by rw[hs];exact hi),Below.heap_setCell _ _ _ _ (by intro e;subst e;exact hn rfl)]
 ·exact alloc_new_at _ hs
set_option maxRecDepth 100000 in
set_option maxHeartbeats 1000000 in
theorem left_any(w:World)(b:Nat)(s:ByteArray)(a:Nat)(most:Int)(h:RdB w b s a most)(ha:a≤s.size)(hs:s.size≤9223372036854775807):
  Calls Tryz.prog 252 #[.pointer (some ⟨b,0,none⟩)] w (LeftIs (leftOf s a) b s most a w):=by
 have H:=Lib.hid h;have hbl:=lt_of_block h;clear h
 go_enter_defers Tryz.func252,Tryz.ntmps252
 go_wp2_with fail
 obtain⟨W,hW⟩:∃W,w.alloc (.cells #[.nilIface] 89)=W:=⟨_,rfl⟩
 have WB:Hid (Below w.heap.size w W):=Lib.hid (by rw[←hW];(repeat (first | exact Below.refl _ _ | assumption | (refine bdrew ?_) | (refine bdrewN ?_ _) | (refine balloc ?_ _) | (refine bset ?_ (by first | omega | (simp;done) | (simp;omega)) _) | (refine bnext ?_ (by assumption)))))
 have W0:Hid (W.heap[w.heap.size]?=some (.cells #[.nilIface] 89 (0,0))):=Lib.hid (by rw[←hW];(repeat (first | exact alloc_new_at _ (by repeat (first | rfl | refine alloc_size _ ?_)) | refine block_alloc ?_ _)))
 rw[hW]
 clear hW
 refine(here_any W b s a most (H.out.below WB.out) ha hs).mono ?_
 rintro e w1 ⟨rfl,hb1⟩
 have B1:=Lib.hid hb1;clear hb1
 by_cases hlt:a<s.size
 ·have he:=ext_some s a hlt
  have he2:(!(s.extract a s.size).toList.isEmpty)=true:=by rw[he];rfl
  have T:Hid (leftOf s a=some 5):=Lib.hid (by unfold leftOf;rw[if_pos hlt])
  go_wp2_with fail
  refine(stop_any 5 _).mono ?_
  rintro e w2 ⟨rfl,rfl⟩
  go_wp2
  rw[T.out]
  refine door_left 5 b s a most w2 w.heap.size (H.out.below (bnext WB.out B1.out)) ((B1.out.block _ (lt_of_block W0.out)).trans W0.out) (λ w hc=>by simp[results,Tryz.results252,go_sem,hc]) (λ w' hE hf=>?_)
  have hz:=(bnext WB.out B1.out).size
  exact⟨grownBy_below (bnext WB.out B1.out) hE (λ k hk=>by cases hk;exact Nat.le_refl _),_,rfl,hz,hf⟩
 ·have he:=ext_empty s a hlt
  have he2:(!(s.extract a s.size).toList.isEmpty)=false:=by rw[he];rfl
  have T:Hid (leftOf s a=none):=Lib.hid (by unfold leftOf;rw[if_neg hlt]);have E1:=(B1.out.block _ (lt_of_block W0.out)).trans W0.out;have a2:w1.cell? ⟨w.heap.size,0,none⟩=some .nilIface:=block_cell E1 0;have a3:w1.frozen? ⟨w.heap.size,0,none⟩=false:=block_free E1 0;have hz1:=lt_of_block E1;clear E1
  go_wp2
  rw[T.out]
  refine leaves_cons (f:=264) (args:=#[.pointer (some ⟨b,0,none⟩),.pointer (some ⟨w.heap.size,0,none⟩)]) (by simp) (by simp[go_sem]) ?_
  refine(fault_idle (.pointer (some ⟨b,0,none⟩)) (.pointer (some ⟨w.heap.size,0,none⟩)) _).mono ?_
  rintro e u' w'' ⟨rfl,rfl,rfl⟩
  refine⟨_,by simp[results,Tryz.results252,go_sem,a2];rfl,?_⟩
  exact⟨bset (bnext WB.out B1.out) (by show w.heap.size≤w.heap.size;exact Nat.le_refl _) _,rfl⟩
set_option maxRecDepth 100000 in
set_option maxHeartbeats 1000000 in
theorem End_any(w:World)(b:Nat)(s:ByteArray)(a:Nat)(most:Int)(het:ErrType w)(h:RdB w b s a most)(ha:a≤s.size)(hs:s.size≤9223372036854775807):
  Calls Tryz.prog 184 #[.pointer (some ⟨b,0,none⟩)] w (LeftIs (leftOf s a) b s most a w):=by
 have H:=Lib.hid h;have HET:=Lib.hid het;clear h het
 go_enter Tryz.func184,Tryz.ntmps184
 go_wp2_with fail
 refine(left_any w b s a most H.out ha hs).mono ?_
 rintro e w1 ⟨hb1,hm⟩
 have B1:=Lib.hid hb1;clear hb1
 cases hl:leftOf s a with
 | none=>
  rw[hl]at hm
  subst hm
  have T:=Lib.hid hl;clear hl
  go_wp2_with fail
  refine(is_none 1 _).mono ?_
  rintro e w2 ⟨rfl,rfl⟩
  go_wp2_with fail
  refine(as_none _ _).mono ?_
  rintro e w2 ⟨rfl,rfl⟩
  go_wp2
  go_ret
  rw[T.out]
  exact⟨(by have:=B1.out;(repeat (first | exact Below.refl _ _ | assumption | (refine bdrew ?_) | (refine bdrewN ?_ _) | (refine balloc ?_ _) | (refine bset ?_ (by first | omega | (simp;done) | (simp;omega)) _) | (refine bnext ?_ (by assumption))))),rfl⟩
 | some k=>
  have hk:k=5:=by unfold leftOf at hl;split at hl <;> simp_all
  subst hk
  rw[hl]at hm
  obtain⟨f,rfl,hf,hfb⟩:=hm
  have T:=Lib.hid hl;have F1:=Lib.hid hfb;clear hl hfb
  go_wp2_with fail
  refine(is_fault f 5 1 _ (block_cell (block_alloc F1.out _) 0)).mono ?_
  rintro e w2 ⟨rfl,hw2⟩
  have hb51:((5:Int) == 1)=false:=by decide
  have B2:Hid (Below w1.heap.size w1 w2):=Lib.hid (by rw[hw2];exact balloc (Below.refl _ _) _);have T2:Hid (w2.heap[w1.heap.size]?=some (.cells #[.pointer none] 290 (0,0))):=Lib.hid (by rw[hw2];exact heap_alloc_new _ _);clear hw2
  go_wp2_with fail
  refine(as_fault f w1.heap.size none w2 (HET.out.below (bnext B1.out B2.out)) T2.out).mono ?_
  rintro e w3 ⟨rfl,hE3,hb3⟩
  have X3:Hid (Below w.heap.size w w3):=Lib.hid (grownBy_below (bnext B1.out B2.out) hE3 (λ k hk=>by cases hk;exact B1.out.size));have F3:Hid (FltB w3 f 5 a):=Lib.hid (extB_block hE3 (by
   have:=lt_of_block F1.out
   intro e;cases e;omega) (F1.out.below B2.out))
  clear hE3 hb3
  go_wp2
  go_ret
  rw[T.out]
  exact⟨X3.out,f,rfl,hf,F3.out⟩
end Go.Proofs.YtpobhbdomldecaaGreatDoor
namespace Go.Proofs.YtpobhbdomldecaaGreatDoor
set_option linter.unusedSimpArgs false
open Go.RowKit
set_option linter.unusedVariables false
def EsV(VO:Nat→Option Nat)(X:Nat→World→World→Prop)(j:Nat)(w w':World):Prop:=w.grownBy w' (VO j)∧X j w w'
theorem esV_refl{VO:Nat→Option Nat}{X:Nat→World→World→Prop}{j:Nat}(hX:∀j w,X j w w)(w:World):EsV VO X j w w:=⟨⟨rfl,rfl,rfl,Nat.le_refl _,λ _ _ _=>rfl⟩,hX j w⟩
theorem esV_of_ext{VO:Nat→Option Nat}{X:Nat→World→World→Prop}{j:Nat}{w w':World}(h:Ext w w')(hx:X j w w'):EsV VO X j w w':=⟨⟨h.os,h.tape,h.output,h.size,λ i hi _=>h.block i hi⟩,hx⟩
structure ExtS(VO:Nat→Option Nat)(w w':World):Prop where
 os:w'.os=w.os
 tape:w'.tape=w.tape
 output:w'.output=w.output
 size:w.heap.size≤w'.heap.size
 block:∀k,k<w.heap.size→(∀j,VO j≠some k)→w'.heap[k]?=w.heap[k]?
theorem ExtS.refl(VO:Nat→Option Nat)(w:World):ExtS VO w w:=⟨rfl,rfl,rfl,Nat.le_refl _,λ _ _ _=>rfl⟩
theorem ExtS.step{VO:Nat→Option Nat}{X:Nat→World→World→Prop}{j:Nat}{a b c:World}(h:ExtS VO a b)(k':EsV VO X j b c):ExtS VO a c:=
 have k:=k'.1
 ⟨k.os.trans h.os,k.tape.trans h.tape,k.output.trans h.output,Nat.le_trans h.size k.size,λ i hi hn=>(k.block i (Nat.lt_of_lt_of_le hi h.size) (λ e=>hn j e.symm)).trans (h.block i hi hn)⟩
structure Here(VO:Nat→Option Nat)(I:World→Prop)(ops:List Oper)(w0 w:World)(D:Nat→Prop)(i:Nat):Prop where
 ext:ExtS VO w0 w
 inv:I w
 late:∀j,¬D j→∀b,VO j=some b→b<w0.heap.size→w.heap[b]?=w0.heap[b]?
 notyet:∀(j:Nat) oj,ops[j]?=some oj→∀e ∈ oj.after,Region.binds .any e=true→¬D e.on→¬D j
 me:¬D i
theorem Here.own{VO:Nat→Option Nat}{I:World→Prop}{ops:List Oper}{w0 w:World}{D:Nat→Prop}{i:Nat}(h:Here VO I ops w0 w D i):∀b,VO i=some b→b<w0.heap.size→w.heap[b]?=w0.heap[b]?:=h.late i h.me
section
variable (P : Program) (ops : List Oper) (a0 : Act) (w0 : World) (VO : Nat → Option Nat) (X : Nat → World → World → Prop) (I : World → Prop) (PR : Nat → Nat → Value → Value → World → Prop) (Φ : Nat → Value → World → Prop) (Q : Exit → Act → World → Prop)
def PairAt(D:Nat→Prop)(a:Act)(i:Nat)(v:Value)(w':World):Prop:=∀j oj,ops[j]?=some oj→D j→j≠i→PR i j v (slotOf oj a) w'∧PR j i (slotOf oj a) v w'
def StepAtV(hd:Nat)(i:Nat)(o:Oper):Prop:=∀(D:Nat→Prop) a w,(∀j oj,ops[j]?=some oj→D j→Φ j (slotOf oj a) w)→Here VO I ops w0 w D i→Outer ops a0 hd a→Deps ops Φ a w o.after.toList→
 if Region.wanted o (yielded ops.toArray a.tmps)then o.wp P a w (λ a' w'=>∃v,a'=a.put o.dst v∧EsV VO X i w w'∧Φ i (valOf o v) w'∧PairAt ops PR D a i (valOf o v) w') Q else Φ i undef w∧∀j vi vj w,PR i j vi vj w∧PR j i vi vj w
structure RInvV(n:Nat)(listed:Array Bool)(a:Act)(w:World):Prop where
 head:HeadInv .any ops.toArray n listed
 ext:ExtS VO w0 w
 inv:I w
 ext0:∀i,listed.getD i true=false→∀b,VO i=some b→b<w0.heap.size→w.heap[b]?=w0.heap[b]?
 outer:Outer ops a0 n a
 done:∀(i:Nat) o,ops[i]?=some o→listed.getD i true=true→Φ i (slotOf o a) w
 pair:∀i j oi oj,ops[i]?=some oi→ops[j]?=some oj→listed.getD i true=true→listed.getD j true=true→i≠j→PR i j (slotOf oi a) (slotOf oj a) w
variable {P ops a0 w0 VO X I PR Φ Q}
theorem slotv_same{o:Oper}{i:Nat}{a:Act}{v:Value}(hB:regOk ops a0.tmps.size=true)(hs:a.tmps.size=a0.tmps.size)(ho:ops[i]?=some o):slotOf o (a.put o.dst v)=valOf o v:=by
 unfold slotOf valOf
 cases hd:o.dst with
 | none=>rfl
 | some d=>
  have hdl:∀d ∈ dstsOf ops,d<a0.tmps.size:=by
   unfold regOk at hB;simp only[Bool.and_eq_true]at hB
   intro d hd;simpa using List.all_eq_true.1 hB.2 d hd
  have hmem:d ∈ dstsOf ops:=List.mem_filterMap.2 ⟨o,List.mem_of_getElem? ho,hd⟩
  exact eval_put_same (by rw[hs];exact hdl d hmem)
theorem slot_other{o oj:Oper}{i j:Nat}{a:Act}{v:Value}(hB:regOk ops a0.tmps.size=true)(hij:i≠j)(ho:ops[i]?=some o)(hoj:ops[j]?=some oj):slotOf oj (a.put o.dst v)=slotOf oj a:=by
 have hnd:(dstsOf ops).Nodup:=by unfold regOk at hB;simp only[Bool.and_eq_true,decide_eq_true_eq]at hB;exact hB.1.2
 unfold slotOf
 cases hdj:oj.dst with
 | none=>rfl
 | some d=>
  cases hdo:o.dst with
  | none=>rfl
  | some d'=>
   have hne:d≠d':=by
    rintro rfl
    exact dst_two hnd hij ho hoj hdo hdj
   exact eval_put_ne hne
theorem RInvV.next{n:Nat}(hB:regOk ops a0.tmps.size=true)(hVO:∀i j b,VO i=some b→VO j=some b→i=j)
  (hmono:∀i j v w w',i≠j→EsV VO X j w w'→Φ i v w→Φ i v w') (hI:∀j w w',EsV VO X j w w'→I w→I w') (hmonoP:∀i j k vi vj w w',k≠i→k≠j→EsV VO X k w w'→PR i j vi vj w→PR i j vi vj w') {listed:Array Bool} {a:Act} {w:World} (inv:RInvV ops a0 w0 VO I PR Φ n listed a w)
  {i:Nat} {o:Oper} (hi:i ∈ Region.ready .any ops.toArray listed) (hin:i<n) (ho':ops[i]?=some o) {v:Value} {w':World} (he:EsV VO X i w w') (hv:Φ i (valOf o v) w') (hpr:PairAt ops PR (λ j=>listed.getD j true=true) a i (valOf o v) w'):
  RInvV ops a0 w0 VO I PR Φ n (listed.setIfInBounds i true) (a.put o.dst v) w':=by
 have hnd:(dstsOf ops).Nodup:=by unfold regOk at hB;simp only[Bool.and_eq_true,decide_eq_true_eq]at hB;exact hB.1.2
 have hdl:∀d ∈ dstsOf ops,d<a0.tmps.size:=by
  unfold regOk at hB;simp only[Bool.and_eq_true]at hB
  intro d hd;simpa using List.all_eq_true.1 hB.2 d hd
 refine⟨inv.head.set hi hin,inv.ext.step he,hI _ _ _ he inv.inv,λ k hl b hb hlt=>?_,?_,?_,λ i1 j1 oi oj hoi hoj l1 l2 hne=>?_⟩
 ·by_cases his:k=i
  ·exfalso
   subst his
   obtain⟨hun,o',ho,_⟩:=mem_ready.1 hi
   have hil:k<listed.size:=by rw[inv.head.size];exact(Array.getElem?_eq_some_iff.1 ho).1
   simp[hil]at hl
  ·rw[getD_set_ne true (Ne.symm his)]at hl
   have h1:=inv.ext0 k hl b hb hlt
   rw[←h1]
   exact he.1.block b (Nat.lt_of_lt_of_le hlt inv.ext.size) (λ e=>his (hVO k i b hb e.symm))
 ·obtain⟨h1,h2,h3⟩:=inv.outer
  cases hd:o.dst with
  | none=>exact⟨h1,h2,h3⟩
  | some d=>
   refine⟨h1,by simp[Act.put,h2],λ t ht=>?_⟩
   have hmem:d ∈ dstsOf (ops.take n):=List.mem_filterMap.2 ⟨o,List.mem_of_getElem? (i:=i) (by rw[List.getElem?_take,if_pos hin];exact ho'),hd⟩
   rw[eval_put_ne (by rintro rfl;simp at ht;exact ht hmem)];exact h3 t ht
 ·intro j oj hoj hl
  by_cases hij:j=i
  ·subst hij
   have:oj=o:=Option.some.inj (hoj.symm.trans ho')
   subst this
   unfold slotOf
   unfold valOf at hv
   cases hd:oj.dst with
   | none=>simpa [hd] using hv
   | some d=>
    simp only[hd]at hv
    have hmem:d ∈ dstsOf ops:=List.mem_filterMap.2 ⟨oj,List.mem_of_getElem? ho',hd⟩
    simp only
    rw[eval_put_same (by rw[inv.outer.2.1];exact hdl d hmem)];exact hv
  ·rw[getD_set_ne true (Ne.symm hij)]at hl
   have h1:=hmono j i _ w w' hij he (inv.done j oj hoj hl)
   unfold slotOf at h1 ⊢
   cases hdj:oj.dst with
   | none=>first | exact h1 | simpa [hdj] using h1
   | some d=>
    try simp only[hdj]at h1 ⊢
    cases hdo:o.dst with
    | none=>exact h1
    | some d'=>
     have hne:d≠d':=by
      rintro rfl
      exact dst_two hnd (Ne.symm hij) ho' hoj hdo hdj
     rw[eval_put_ne hne];exact h1
 ·by_cases h1:i1=i
  ·subst h1
   have e:oi=o:=Option.some.inj (hoi.symm.trans ho')
   subst e
   rw[slotv_same hB inv.outer.2.1 ho',slot_other hB hne ho' hoj]
   exact(hpr j1 oj hoj (by rwa [getD_set_ne true hne]at l2) (Ne.symm hne)).1
  ·by_cases h2:j1=i
   ·subst h2
    have e:oj=o:=Option.some.inj (hoj.symm.trans ho')
    subst e
    rw[slotv_same hB inv.outer.2.1 ho',slot_other hB (Ne.symm hne) ho' hoi]
    exact(hpr i1 oi hoi (by rwa [getD_set_ne true (Ne.symm hne)]at l1) hne).2
   ·rw[slot_other hB (Ne.symm h1) ho' hoi,slot_other hB (Ne.symm h2) ho' hoj]
    exact hmonoP i1 j1 i _ _ w w' (Ne.symm h1) (Ne.symm h2) he (inv.pair i1 j1 oi oj hoi hoj (by rwa [getD_set_ne true (Ne.symm h1)]at l1) (by rwa [getD_set_ne true (Ne.symm h2)]at l2) hne)
theorem wpAnyV_head{n g:Nat}(hB:regOk ops a0.tmps.size=true)(hVO:∀i j b,VO i=some b→VO j=some b→i=j)
  (hmono:∀i j v w w',i≠j→EsV VO X j w w'→Φ i v w→Φ i v w') (hI:∀j w w',EsV VO X j w w'→I w→I w') (hmonoP:∀i j k vi vj w w',k≠i→k≠j→EsV VO X k w w'→PR i j vi vj w→PR i j vi vj w') (hX:∀j w,X j w w) (hnN:n≤ops.length)
  (hstep:∀(i:Nat) o,i<n→ops[i]?=some o→StepAtV P ops a0 w0 VO X I PR Φ Q n i o)
  (hlate:∀listed,HeadInv .any ops.toArray n listed→(∃i,i<n∧listed.getD i true=false)→Region.ready .any ops.toArray listed≠[]∧∀t ∈ Region.ready .any ops.toArray listed,t<n)
  (hend:∀listed a w,RInvV ops a0 w0 VO I PR Φ n listed a w→(∀i,i<n→listed.getD i true=true)→wpAny P .any ops.toArray Q g listed a w):
  ∀(fuel:Nat) (listed:Array Bool) (a:Act) (w:World),((List.range n).filter (λ i=>!listed.getD i true)).length=fuel→RInvV ops a0 w0 VO I PR Φ n listed a w→
   wpAny P .any ops.toArray Q (fuel+g) listed a w:=by
 intro fuel
 induction fuel with
 | zero=>
  intro listed a w hf inv
  rw[Nat.zero_add]
  refine hend listed a w inv λ i hi=>?_
  cases h:listed.getD i true with
  | true=>rfl
  | false=>
   have:i ∈ (List.range n).filter (λ i=>!listed.getD i true):=List.mem_filter.2 ⟨List.mem_range.2 hi,by rw[h];rfl⟩
   rw[List.eq_nil_of_length_eq_zero hf]at this;cases this
 | succ fuel ih=>
  intro listed a w hf inv
  rw[show fuel+1+g=(fuel+g)+1 by omega]
  have hex:∃i,i<n∧listed.getD i true=false:=by
   cases hl:(List.range n).filter (λ i=>!listed.getD i true)with
   | nil=>rw[hl]at hf;cases hf
   | cons x L=>
    have:x ∈ (List.range n).filter (λ i=>!listed.getD i true):=by rw[hl];exact List.mem_cons_self ..
    obtain⟨h1,h2⟩:=List.mem_filter.1 this
    exact⟨x,List.mem_range.1 h1,by simpa using h2⟩
  obtain⟨hne,hlt⟩:=hlate listed inv.head hex
  refine⟨λ hr=>absurd hr hne,λ i hi=>?_⟩
  have hin:=hlt i hi
  obtain⟨hun,o,ho,hall⟩:=mem_ready.1 hi
  have ho':ops[i]?=some o:=by simpa using ho
  have hls:listed.size=ops.length:=by rw[inv.head.size];simp
  have hdep:Deps ops Φ a w o.after.toList:=deps_of λ e he hb oj hoj=>by
   have h1:=hall e (by simpa using he) hb
   refine inv.done e.on oj hoj ?_
   have h2:e.on<listed.size:=by
    rcases Nat.lt_or_ge e.on listed.size with h | h
    ·exact h
    ·simp[Array.getElem?_eq_none h]at h1
   simp[h2]at h1 ⊢;exact h1
  have hst:=hstep i o hin ho' (λ j=>listed.getD j true=true) a w (λ j oj hoj hl=>inv.done j oj hoj hl)
   ⟨inv.ext,inv.inv,λ j hj=>inv.ext0 j (by simpa using hj),λ j oj hoj e he hb hne hD=>(by
    have hjl:j<listed.size:=by rw[hls];exact(List.getElem?_eq_some_iff.1 hoj).1
    have h1:=inv.head.closed j oj (by simpa using hoj) (by simp[hjl]at hD ⊢;exact hD) e he hb
    rcases Nat.lt_or_ge e.on listed.size with h | h
    ·simp[h]at h1 hne;rw[h1]at hne;cases hne
    ·simp[Array.getElem?_eq_none h]at h1),(by rw[hun];exact Bool.false_ne_true)⟩ inv.outer hdep
  have next:∀v w',EsV VO X i w w'→Φ i (valOf o v) w'→PairAt ops PR (λ j=>listed.getD j true=true) a i (valOf o v) w'→wpAny P .any ops.toArray Q (fuel+g) (listed.setIfInBounds i true) (a.put o.dst v) w':=by
   intro v w' he hv hpr
   refine ih _ _ _ ?_ (inv.next hB hVO hmono hI hmonoP hi hin ho' he hv hpr)
   have:=head_count (listed:=listed) (i:=i) (by omega) hun _ List.nodup_range (List.mem_range.2 hin)
   omega
  unfold wpOp
  rw[ho]
  dsimp only
  by_cases hw:Region.wanted o (yielded ops.toArray a.tmps)=true
  ·rw[if_pos hw]at hst ⊢
   left
   refine Oper.wp_mono (λ a' w' h=>?_) hst
   obtain⟨v,rfl,he,hv,hpr⟩:=h
   exact next v w' he hv hpr
  ·rw[if_neg hw]at hst ⊢
   have e:valOf o undef=undef:=by unfold valOf;cases o.dst <;> rfl
   exact next undef w (esV_refl hX w) (by rw[e];exact hst.1) (λ j oj _ _ _=>⟨(hst.2 j _ _ w).1,(hst.2 j _ _ w).2⟩)
end
section
variable {P : Program} {Q : Exit → Act → World → Prop} {a : Act} {w : World} {l : List Oper} {VO : Nat → Option Nat} {X : Nat → World → World → Prop} {I : World → Prop} {PR : Nat → Nat → Value → Value → World → Prop} {Φ : Nat → Value → World → Prop}
theorem rinvV_start{n:Nat}(hI0:I w.drew)(hn:n≤l.length):RInvV l a w.drew VO I PR Φ n (Array.replicate l.length false) a w.drew:=
 ⟨⟨by simp,λ j oj _ hl=>(by rw[getD_replicate_false]at hl;cases hl),λ t _ ht=>getD_in (by simpa using ht) (getD_replicate_false _ _)⟩,ExtS.refl _ _,hI0,λ _ _ _ _ _=>rfl,⟨rfl,rfl,λ _ _=>rfl⟩,
  λ i o ho hl=>(by
   have hi:=(List.getElem?_eq_some_iff.1 ho).1
   rw[getD_in (by simpa using hi) (getD_replicate_false _ _)]at hl;cases hl),λ i1 _ oi _ hoi _ l1 _ _=>(by
   have hi:=(List.getElem?_eq_some_iff.1 hoi).1
   rw[getD_in (by simpa using hi) (getD_replicate_false _ _)]at l1;cases l1)⟩
theorem wp_region_tailV{id:Nat}(n:Nat)(VO:Nat→Option Nat)(hVO:∀i j b,VO i=some b→VO j=some b→i=j)(X:Nat→World→World→Prop)(I:World→Prop)(PR:Nat→Nat→Value→Value→World→Prop)(hX:∀j w,X j w w)(hI0:I w.drew)(Φ:Nat→Value→World→Prop)(hm:P.follows .mixedOrders=true)(hB:regOk l a.tmps.size=true)(hT:regTail l n=true)
  (hmono:∀i j v w1 w',i≠j→EsV VO X j w1 w'→Φ i v w1→Φ i v w') (hI:∀j w w',EsV VO X j w w'→I w→I w') (hmonoP:∀i j k vi vj w w',k≠i→k≠j→EsV VO X k w w'→PR i j vi vj w→PR i j vi vj w')
  (hstep:∀(i:Nat) o,i<n→l[i]?=some o→StepAtV P l a w.drew VO X I PR Φ Q n i o)
  (hend:∀a' w',ExtS VO w.drew w'→I w'→Outer l a n a'→AllDone l Φ a' w' 0 n→(∀i j oi oj,l[i]?=some oi→l[j]?=some oj→i<n→j<n→i≠j→PR i j (slotOf oi a') (slotOf oj a') w')→wpList P l.toArray Q (l.drop n) a' w'):(Code.region id l.toArray true).wp P Q a w:=by
 unfold regTail at hT
 simp only[Bool.and_eq_true,decide_eq_true_eq]at hT
 obtain⟨⟨⟨hn,hs⟩,hc⟩,hseq⟩:=hT
 refine wp_region_any hm ?_
 have H:=wpAnyV_head (P:=P) (ops:=l) (a0:=a) (w0:=w.drew) (VO:=VO) (X:=X) (I:=I) (PR:=PR) (Φ:=Φ) (Q:=Q) (n:=n) (g:=l.length - n) hB hVO hmono hI hmonoP hX (by omega) hstep
  (λ listed inv ⟨i,hi,hun⟩=>⟨λ hr=>(by
    have:=all_of_ready_nil (a0:=a) hB (by rw[inv.size];simp) hr i (by omega)
    rw[hun]at this;cases this),λ t ht=>(by
    rcases Nat.lt_or_ge t n with h | h
    ·exact h
    ·exact absurd ht (tail_waits hs hc (by simpa using hn) inv (n - i) i rfl hi hun t h))⟩)
  (λ listed a' w' inv hall=>(by
    have e:=headDone_of (n:=n) (N:=l.length) (by rw[inv.head.size];simp) hall (λ i h1 h2=>inv.head.tail i h1 (by simpa using h2)) (by omega);have h:=wpAny_of_seq (P:=P) (md:=.any) (Q':=Q) (ops:=l.toArray) (l.drop n) n listed a' w' (λ j=>by simp[List.getElem?_drop]) (by rw[List.length_drop,e];exact hseq)
     (hend a' w' inv.ext inv.inv inv.outer (allDone_of _ _ λ j _ h2 o ho=>inv.done j o ho (hall j (by omega))) (λ i j oi oj hoi hoj h1 h2 hne=>inv.pair i j oi oj hoi hoj (hall i h1) (hall j h2) hne))
    rwa [List.length_drop]at h))
  n (Array.replicate l.length false) a w.drew (start_count _ _ (by omega)) (rinvV_start hI0 (by omega))
 rw[show n+(l.length - n)=l.length by omega]at H
 simpa using H
end
def MonoAllV(VO:Nat→Option Nat)(X:Nat→World→World→Prop):Nat→List (Value→World→Prop)→Prop
 | _,[]=>True
 | i,φ :: r=>(∀j,j≠i→∀v w1 w',EsV VO X j w1 w'→φ v w1→φ v w')∧MonoAllV VO X (i+1) r
theorem monoV_at{VO:Nat→Option Nat}{X:Nat→World→World→Prop}:∀{L:List (Value→World→Prop)} {k:Nat},MonoAllV VO X k L→∀i j v w1 w',j≠k+i→EsV VO X j w1 w'→L.getD i (λ _ _=>True) v w1→L.getD i (λ _ _=>True) v w'
 | [],_,_,_,_,_,_,_,_,_,_=>by simp
 | φ :: r,k,h,0,j,v,w1,w',hj,he,hp=>h.1 j hj v w1 w' he hp
 | φ :: r,k,h,i+1,j,v,w1,w',hj,he,hp=>monoV_at (L:=r) h.2 i j v w1 w' (by omega) he hp
theorem monoV_of{VO:Nat→Option Nat}{X:Nat→World→World→Prop}{L:List (Value→World→Prop)}(h:MonoAllV VO X 0 L):∀i j v w1 w',i≠j→EsV VO X j w1 w'→phis L i v w1→phis L i v w':=λ i j v w1 w' hij he hp=>
 monoV_at h i j v w1 w' (by omega) he hp
theorem monoV_eq{VO:Nat→Option Nat}{X:Nat→World→World→Prop}{i:Nat}{f:Value→Prop}:∀j,j≠i→∀v w1 w',EsV VO X j w1 w'→(λ v (_:World)=>f v) v w1→(λ v (_:World)=>f v) v w':=λ _ _ _ _ _ _ h=>h
def StepsFromV(P:Program)(ops:List Oper)(a0:Act)(w0:World)(VO:Nat→Option Nat)(X:Nat→World→World→Prop)(I:World→Prop)(PR:Nat→Nat→Value→Value→World→Prop)(Φ:Nat→Value→World→Prop)(Q:Exit→Act→World→Prop)(hd:Nat):Nat→Nat→List Oper→Prop
 | _,0,_=>True
 | _,_+1,[]=>True
 | i,n+1,o :: r=>StepAtV P ops a0 w0 VO X I PR Φ Q hd i o∧StepsFromV P ops a0 w0 VO X I PR Φ Q hd (i+1) n r
theorem stepsV_from{P:Program}{ops:List Oper}{a0:Act}{w0:World}{VO:Nat→Option Nat}{X:Nat→World→World→Prop}{I:World→Prop}{PR:Nat→Nat→Value→Value→World→Prop}{Φ:Nat→Value→World→Prop}{Q:Exit→Act→World→Prop}{hd:Nat}:
  ∀(n k:Nat) (r:List Oper),StepsFromV P ops a0 w0 VO X I PR Φ Q hd k n r→∀(i:Nat) o,i<n→r[i]?=some o→StepAtV P ops a0 w0 VO X I PR Φ Q hd (k+i) o
 | 0,_,_,_,_,_,h,_=>by omega
 | _+1,_,[],_,_,_,_,h=>by simp at h
 | n+1,k,x :: r,h,0,o,_,ho=>by simp at ho;subst ho;exact h.1
 | n+1,k,x :: r,h,i+1,o,hi,ho=>by
  have:=stepsV_from n (k+1) r h.2 i o (by omega) (by simpa using ho)
  rwa [Nat.add_assoc,Nat.add_comm 1 i]at this
theorem stepsV_of{P:Program}{ops:List Oper}{a0:Act}{w0:World}{VO:Nat→Option Nat}{X:Nat→World→World→Prop}{I:World→Prop}{PR:Nat→Nat→Value→Value→World→Prop}{Φ:Nat→Value→World→Prop}{Q:Exit→Act→World→Prop}{hd:Nat}(n:Nat)
  (h:StepsFromV P ops a0 w0 VO X I PR Φ Q hd 0 n ops):∀(i:Nat) o,i<n→ops[i]?=some o→StepAtV P ops a0 w0 VO X I PR Φ Q hd i o:=λ i o hi ho=>by
 have:=stepsV_from n 0 ops h i o hi ho
 rwa [Nat.zero_add]at this
section
variable {P : Program} {ops : List Oper} {a0 : Act} {w0 : World} {VO : Nat → Option Nat} {X : Nat → World → World → Prop} {I : World → Prop} {PR : Nat → Nat → Value → Value → World → Prop} {Φ : Nat → Value → World → Prop} {Q : Exit → Act → World → Prop} {hd : Nat} {i : Nat} {o : Oper}
theorem stepV_wp(h:∀(D:Nat→Prop) a w1,(∀j oj,ops[j]?=some oj→D j→Φ j (slotOf oj a) w1)→Here VO I ops w0 w1 D i→Outer ops a0 hd a→Deps ops Φ a w1 o.after.toList→
  Region.wanted o (yielded ops.toArray a.tmps)=true∧o.wp P a w1 (λ a' w'=>∃v,a'=a.put o.dst v∧EsV VO X i w1 w'∧Φ i (valOf o v) w'∧PairAt ops PR D a i (valOf o v) w') Q):StepAtV P ops a0 w0 VO X I PR Φ Q hd i o:=λ D a w1 hP hE hO hD=>by
 obtain⟨h1,h2⟩:=h D a w1 hP hE hO hD
 rw[if_pos h1];exact h2
theorem stepV_val{v:Value}(hX:∀j w,X j w w)(hp:∀j vi vj w,PR i j vi vj w∧PR j i vi vj w)(h:∀(D:Nat→Prop) a w1,Here VO I ops w0 w1 D i→Outer ops a0 hd a→Deps ops Φ a w1 o.after.toList→
  Region.wanted o (yielded ops.toArray a.tmps)=true∧(execOp a.eval o).run P w1=.ok (.value v) w1) (hφ:∀w1,Φ i (valOf o v) w1):StepAtV P ops a0 w0 VO X I PR Φ Q hd i o:=λ D a w1 hP hE hO hD=>by
 obtain⟨h1,h2⟩:=h D a w1 hE hO hD
 rw[if_pos h1]
 unfold Oper.wp
 rw[h2]
 exact⟨v,rfl,esV_refl hX w1,hφ w1,λ j oj _ _ _=>⟨(hp j _ _ w1).1,(hp j _ _ w1).2⟩⟩
end
end Go.Proofs.YtpobhbdomldecaaGreatDoor
namespace Go.Proofs.YtpobhbdomldecaaGreatDoor
set_option linter.unusedSimpArgs false
set_option linter.unusedVariables false
open Go.RowKit
def urowsOf(sort:Nat):List URow:=match sort with | 1=>binsL | 2=>strsL | 3=>listsL | 4=>pairsL | _=>numsL
def takeOf(sort:Nat)(s:ByteArray)(a:Nat)(most:Int):Except Int (Int × ByteArray × Nat):=
 match headOf (s.extract a s.size) (urowsOf sort)with
 | .error k=>.error k
 | .ok (n,rest)=>
  if sort≠0∧most<n then .error 3
  else if sort=1 ∨ sort=2 then(if(rest.size:Int)<n then .error 4 else .ok (n,rest.extract 0 n.toNat,s.size - (rest.size - n.toNat)))
  else .ok (n,⟨#[]⟩,s.size - rest.size)
theorem textOf_is{s:ByteArray}{a:Nat}{most:Int}{sort:Nat}(h:sort=1 ∨ sort=2):
  (∃k,textOf s a most (urowsOf sort)=.error k∧takeOf sort s a most=.error k) ∨
  (∃(n:Nat) (t:ByteArray) (a':Nat),textOf s a most (urowsOf sort)=.ok (.string t,a')∧takeOf sort s a most=.ok ((n:Int),t,a')∧t.size=n∧(n:Int)≤most):=by
 have h0:sort≠0:=by omega
 unfold textOf takeOf
 cases hh:headOf (s.extract a s.size) (urowsOf sort)with
 | error k=>exact .inl ⟨k,rfl,rfl⟩
 | ok x=>
  obtain⟨n,rest⟩:=x
  have hb:=head_bd (by rcases h with rfl | rfl;exact binsL_ok;exact strsL_ok) hh
  by_cases h1:most<n
  ·exact .inl ⟨3,by simp only[if_pos h1],by simp only[if_pos (And.intro h0 h1)]⟩
  ·by_cases h2:(rest.size:Int)<n
   ·exact .inl ⟨4,by simp only[if_neg h1,if_pos h2],by simp only[if_neg (λ e:sort≠0∧most<n=>h1 e.2),if_pos h,if_pos h2]⟩
   ·refine .inr ⟨n.toNat,rest.extract 0 n.toNat,s.size - (rest.size - n.toNat),by simp only[if_neg h1,if_neg h2],?_,by rw[ByteArray.size_extract];omega,by omega⟩
    simp only[if_neg (λ e:sort≠0∧most<n=>h1 e.2),if_pos h,if_neg h2]
    rw[show((n.toNat:Nat):Int)=n by omega]
theorem countOf_is{s:ByteArray}{a:Nat}{most:Int}{sort:Nat}(h:sort=3 ∨ sort=4):
  (∃k,countOf s a most (urowsOf sort)=.error k∧takeOf sort s a most=.error k) ∨
  (∃(n:Nat) (a':Nat),countOf s a most (urowsOf sort)=.ok (.int .i64 n,a')∧takeOf sort s a most=.ok ((n:Int),⟨#[]⟩,a')∧(n:Int)≤most):=by
 have h0:sort≠0:=by omega
 have h3:¬(sort=1 ∨ sort=2):=by omega
 unfold countOf takeOf
 cases hh:headOf (s.extract a s.size) (urowsOf sort)with
 | error k=>exact .inl ⟨k,rfl,rfl⟩
 | ok x=>
  obtain⟨n,rest⟩:=x
  have hb:=head_bd (by rcases h with rfl | rfl;exact listsL_ok;exact pairsL_ok) hh
  by_cases h1:most<n
  ·exact .inl ⟨3,by simp only[if_pos h1],by simp only[if_pos (And.intro h0 h1)]⟩
  ·refine .inr ⟨n.toNat,s.size - rest.size,?_,?_,by omega⟩
   ·simp only[if_neg h1];rw[show((n.toNat:Nat):Int)=n by omega]
   ·simp only[if_neg (λ e:sort≠0∧most<n=>h1 e.2),if_neg h3];rw[show((n.toNat:Nat):Int)=n by omega]
theorem numOf_is{s:ByteArray}{a:Nat}{most:Int}:
  (∃k,numOf s a numsL=.error k∧takeOf 0 s a most=.error k) ∨
  (∃(n:Int) (a':Nat),numOf s a numsL=.ok (.int .u64 n,a')∧takeOf 0 s a most=.ok (n,⟨#[]⟩,a')):=by
 unfold numOf takeOf
 have e:urowsOf 0=numsL:=rfl
 rw[e]
 cases hh:headOf (s.extract a s.size) numsL with
 | error k=>exact .inl ⟨k,rfl,rfl⟩
 | ok x=>
  obtain⟨n,rest⟩:=x
  exact .inr ⟨n,s.size - rest.size,rfl,by simp⟩
theorem takeOf_le{sort:Nat}{s:ByteArray}{a:Nat}{most:Int}{x:Int × ByteArray × Nat}(h:takeOf sort s a most=.ok x):x.2.2≤s.size:=by
 unfold takeOf at h
 cases hh:headOf (s.extract a s.size) (urowsOf sort)with
 | error k2=>rw[hh]at h;cases h
 | ok y=>
  obtain⟨n,rest⟩:=y
  rw[hh]at h
  simp only at h
  split at h
  ·cases h
  ·split at h
   ·split at h
    ·cases h
    ·cases h;exact Nat.sub_le _ _
   ·cases h;exact Nat.sub_le _ _
theorem New_any(w:World)(s:ByteArray)(m:Int):Calls Tryz.prog 182 #[.string s,.int .i64 m] w λ e w'=>e=.returned (.pointer (some ⟨w.heap.size,0,none⟩))∧w'=w.alloc (.cells #[.string s,.int .i64 0,.int .i64 (max m 0)] 282):=by
 by_cases h:m<0
 ·rw[show max m 0=0 by omega]
  go_enter Tryz.func182,Tryz.ntmps182
  go_wp2
  go_ret
  exact⟨rfl,by first | rfl | rw[show max m 0=0 by omega]⟩
 ·rw[show max m 0=m by omega]
  go_enter Tryz.func182,Tryz.ntmps182
  go_wp2
  go_ret
  exact⟨rfl,by first | rfl | rw[show max m 0=m by omega]⟩
end Go.Proofs.YtpobhbdomldecaaGreatDoor
namespace Go.Proofs.YtpobhbdomldecaaGreatDoor
open Go.RowKit
set_option linter.unusedSimpArgs false
set_option linter.unusedVariables false
structure RevD where
 pos:Int
 L:Int
 signed:Bool
 idx:Int
 ws:List ByteArray
 ps:List ByteArray
 root:ByteArray
 wt:Int
 first:Int
 life:Int
 keys:Int
inductive DV where
 | num (n:Int)
 | flag (q:Bool)
 | str (s:ByteArray)
 | strs (l:List ByteArray)
 | nums (l:List Int)
 | revs (l:List RevD)
def zeroD:DV→Bool
 | .num n=>n == 0
 | .flag q=>!q
 | .str s=>s.size == 0
 | .strs l=>l.length == 0
 | .nums l=>l.length == 0
 | .revs l=>l.length == 0
abbrev Rcd:=Nat→DV
def upd(x:Rcd)(o:Nat)(d:DV):Rcd:=λ i=>if i=o then d else x i
theorem upd_at(x:Rcd)(o:Nat)(d:DV):upd x o d o=d:=if_pos rfl
theorem upd_ne{x:Rcd}{o i:Nat}{d:DV}(h:i≠o):upd x o d i=x i:=if_neg h
abbrev Flt:=Int × Nat
def tkR(sort:Nat)(s:ByteArray)(a:Nat):Except Flt (Int × ByteArray × Nat):=
 match takeOf sort s a 10240 with
 | .error k=>.error (k,a)
 | .ok x=>.ok x
def rnum(s:ByteArray)(a:Nat):Except Flt (Int × Nat):=
 match tkR 0 s a with
 | .error f=>.error f
 | .ok x=>.ok (x.1,x.2.2)
def rdig(s:ByteArray)(a:Nat):Except Flt (ByteArray × Nat):=
 match tkR 1 s a with
 | .error f=>.error f
 | .ok x=>if x.2.1.size=32 then .ok (x.2.1,x.2.2)else .error (5,0)
def rlist(s:ByteArray)(most:Nat)(a:Nat):Except Flt (Nat × Nat):=
 match tkR 3 s a with
 | .error f=>.error f
 | .ok x=>if x.1≤most then .ok (x.1.toNat,x.2.2)else .error (3,0)
def rmany{α:Type}(rd:Nat→Except Flt (α × Nat)):Nat→Nat→List α→Except Flt (List α × Nat)
 | 0,a,l=>.ok (l,a)
 | n+1,a,l=>
  match rd a with
  | .error f=>.error f
  | .ok x=>rmany rd n x.2 (l++[x.1])
structure GSpec where
 key:ByteArray
 must:Bool
 offs:List Nat
 empty:Rcd→Bool
 read:Rcd→Nat→Except Flt (Rcd × Nat)
def GSpec.zero:GSpec:=⟨ByteArray.empty,false,[],λ _=>true,λ x a=>.ok (x,a)⟩
def gth(l:List GSpec)(i:Nat):GSpec:=l.getD i GSpec.zero
theorem gth_eq(l:List GSpec)(i:Nat)(h:i<l.length):gth l i=l[i]:=by unfold gth;rw[List.getD_eq_getElem?_getD,List.getElem?_eq_getElem h];rfl
def keyIdx(fs:List GSpec)(fr:Nat)(k:ByteArray):Option Nat:=(List.range (fs.length - fr)).find? (λ i=>(gth fs (fr+i)).key.toList == k.toList)
theorem keyIdx_none{fs:List GSpec}{fr:Nat}{k:ByteArray}(h:∀i,i<fs.length - fr→((gth fs (fr+i)).key.toList == k.toList)=false):keyIdx fs fr k=none:=by
 unfold keyIdx
 rw[List.find?_eq_none]
 intro i hi
 rw[h i (List.mem_range.1 hi)];decide
theorem find_range{p:Nat→Bool}{n j:Nat}(hj:j<n)(hp:p j=true)(hn:∀i,i<j→p i=false):(List.range n).find? p=some j:=by
 rw[List.find?_range_eq_some]
 refine⟨hp,by simpa using hj,λ i hi=>by rw[hn i hi];rfl⟩
theorem keyIdx_some{fs:List GSpec}{fr j:Nat}{k:ByteArray}(hj:j<fs.length - fr)(hp:((gth fs (fr+j)).key.toList == k.toList)=true)(hn:∀i,i<j→((gth fs (fr+i)).key.toList == k.toList)=false):keyIdx fs fr k=some j:=
 find_range hj hp hn
def missing(fs:List GSpec)(seen:List Nat):Bool:=(List.range fs.length).any λ i=>(gth fs i).must && !seen.contains i
def objLoop(s:ByteArray)(fs:List GSpec):Nat→Nat→Rcd→List Nat→Nat→Except Flt (Rcd × List Nat × Nat)
 | 0,_,x,seen,a=>.ok (x,seen,a)
 | n+1,fr,x,seen,a=>
  match tkR 2 s a with
  | .error f=>.error f
  | .ok k=>
   match keyIdx fs fr k.2.1 with
   | none=>.error (5,0)
   | some j=>
    match (gth fs (fr+j)).read x k.2.2 with
    | .error f=>.error f
    | .ok y=>if(gth fs (fr+j)).empty y.1 then .error (5,0)else objLoop s fs n (fr+j+1) y.1 ((fr+j) :: seen) y.2
def objR(s:ByteArray)(fs:List GSpec)(x:Rcd)(a:Nat):Except Flt (Rcd × Nat):=
 match tkR 4 s a with
 | .error f=>.error f
 | .ok n=>
  match objLoop s fs n.1.toNat 0 x [] n.2.2 with
  | .error f=>.error f
  | .ok y=>if missing fs y.2.1 then .error (5,0)else .ok (y.1,y.2.2)
def readR(s:ByteArray)(fs:List GSpec)(x:Rcd):Except Flt Rcd:=
 match objR s fs x 0 with
 | .error f=>.error f
 | .ok y=>if y.2<s.size then .error (5,y.2)else .ok y.1
def gnum(s key:ByteArray)(o:Nat):GSpec:=⟨key,false,[o],λ x=>zeroD (x o),λ x a=>match rnum s a with | .error f=>.error f | .ok y=>.ok (upd x o (.num y.1),y.2)⟩
def gflag(s key:ByteArray)(o:Nat):GSpec:=⟨key,false,[o],λ x=>zeroD (x o),λ x a=>match rnum s a with | .error f=>.error f | .ok y=>.ok (upd x o (.flag (y.1 == 1)),y.2)⟩
def gdig(s key:ByteArray)(o:Nat):GSpec:=⟨key,true,[o],λ _=>false,λ x a=>match rdig s a with | .error f=>.error f | .ok y=>.ok (upd x o (.str y.1),y.2)⟩
def gmany{α:Type}(s key:ByteArray)(o most:Nat)(toD:List α→DV)(rd:Nat→Except Flt (α × Nat)):GSpec:=
 ⟨key,false,[o],λ x=>zeroD (x o),λ x a=>match rlist s most a with | .error f=>.error f | .ok k=>match rmany rd k.1 k.2 []with | .error f=>.error f | .ok y=>.ok (upd x o (toD y.1),y.2)⟩
def gdigs(s key:ByteArray)(o most:Nat):GSpec:=gmany s key o most .strs (rdig s)
def gobj(s key:ByteArray)(fs:List GSpec):GSpec:=⟨key,fs.any λ g=>g.must,fs.flatMap λ g=>g.offs,λ x=>fs.all λ g=>g.empty x,objR s fs⟩
def partGs(s:ByteArray)(o:Nat):List GSpec:=[gnum s ⟨#[102]⟩ (o+2),gnum s ⟨#[107]⟩ (o+4),gnum s ⟨#[108]⟩ (o+3),gdig s ⟨#[114]⟩ o,gnum s ⟨#[119]⟩ (o+1)]
def sigGs(s:ByteArray)(o:Nat):List GSpec:=[gnum s ⟨#[105]⟩ o,gdigs s ⟨#[112]⟩ (o+2) 16,gdigs s ⟨#[118]⟩ (o+1) 67]
def slotGs(s:ByteArray)(o:Nat):List GSpec:=[gobj s ⟨#[103]⟩ (sigGs s (o+2)),gnum s ⟨#[108]⟩ o,gflag s ⟨#[115]⟩ (o+1)]
def headerGs(s:ByteArray):List GSpec:=[gdig s ⟨#[112]⟩ 1,gnum s ⟨#[114]⟩ 0,gdig s ⟨#[115]⟩ 3,gdig s ⟨#[116]⟩ 2]
def DV.n:DV→Int | .num n=>n | _=>0
def DV.q:DV→Bool | .flag q=>q | _=>false
def DV.s:DV→ByteArray | .str s=>s | _=>ByteArray.empty
def DV.l:DV→List ByteArray | .strs l=>l | _=>[]
def DV.ns:DV→List Int | .nums l=>l | _=>[]
def DV.rs:DV→List RevD | .revs l=>l | _=>[]
def revC(r:RevD):Rcd:=λ i=>match i with
 | 0=>.num r.pos | 1=>.num r.L | 2=>.flag r.signed | 3=>.num r.idx | 4=>.strs r.ws | 5=>.strs r.ps | 6=>.str r.root | 7=>.num r.wt | 8=>.num r.first | 9=>.num r.life | _=>.num r.keys
def header0:Rcd:=λ i=>match i with | 1=>.str ⟨#[]⟩ | 2=>.str ⟨#[]⟩ | 3=>.str ⟨#[]⟩ | _=>.num 0
def GSpec.Frames(g:GSpec):Prop:=∀x a y,g.read x a=.ok y→∀i,i ∉ g.offs→y.1 i=x i
theorem gnum_frames(s key:ByteArray)(o:Nat):(gnum s key o).Frames:=λ x a y h i hi=>by
 simp only[gnum]at h hi
 split at h
 ·cases h
 ·cases h;exact upd_ne (by simpa using hi)
theorem gdig_frames(s key:ByteArray)(o:Nat):(gdig s key o).Frames:=λ x a y h i hi=>by
 simp only[gdig]at h hi
 split at h
 ·cases h
 ·cases h;exact upd_ne (by simpa using hi)
theorem keyIdx_lt{fs:List GSpec}{fr j:Nat}{k:ByteArray}(h:keyIdx fs fr k=some j):fr+j<fs.length:=by
 unfold keyIdx at h
 have:=List.mem_of_find?_eq_some h
 rw[List.mem_range]at this
 omega
def kindD:DV→Nat
 | .num _=>0 | .flag _=>1 | .str _=>2 | .strs _=>3 | .nums _=>4 | .revs _=>5
def Kd(x0 x:Rcd):Prop:=∀i,kindD (x i)=kindD (x0 i)
def GSpec.Kinds(x0:Rcd)(g:GSpec):Prop:=∀x a y,g.read x a=.ok y→Kd x0 x→Kd x0 y.1
theorem Kd.upd{x0 x:Rcd}(h:Kd x0 x){o:Nat}{d:DV}(hd:kindD d=kindD (x0 o)):Kd x0 (upd x o d):=λ i=>by
 by_cases e:i=o
 ·subst e;rw[upd_at];exact hd
 ·rw[upd_ne e];exact h i
theorem Kd.num{x0 x:Rcd}(h:Kd x0 x){o:Nat}(h0:kindD (x0 o)=0):∃n,x o=.num n:=by
 have:=(h o).trans h0
 cases hx:x o <;> rw[hx]at this <;> first | exact⟨_,rfl⟩ | cases this
theorem gnum_kinds{x0:Rcd}(s key:ByteArray){o:Nat}(h0:kindD (x0 o)=0):(gnum s key o).Kinds x0:=λ x a y h hk=>by
 simp only[gnum]at h
 split at h
 ·cases h
 ·cases h;exact hk.upd h0.symm
theorem gdig_kinds{x0:Rcd}(s key:ByteArray){o:Nat}(h0:kindD (x0 o)=2):(gdig s key o).Kinds x0:=λ x a y h hk=>by
 simp only[gdig]at h
 split at h
 ·cases h
 ·cases h;exact hk.upd h0.symm
theorem objLoop_kinds{x0:Rcd}{s:ByteArray}{fs:List GSpec}(hf:∀g ∈ fs,g.Kinds x0):∀(n fr:Nat) (x:Rcd) (seen:List Nat) (a:Nat) (y:Rcd × List Nat × Nat),objLoop s fs n fr x seen a=.ok y→Kd x0 x→Kd x0 y.1
 | 0,fr,x,seen,a,y,h,hk=>by simp only[objLoop]at h;cases h;exact hk
 | n+1,fr,x,seen,a,y,h,hk=>by
  simp only[objLoop]at h
  split at h
  ·cases h
  ·split at h
   ·cases h
   ·next j hj=>
    have hl:=keyIdx_lt hj;have hm:gth fs (fr+j) ∈ fs:=by rw[gth_eq fs _ hl];exact List.getElem_mem _
    split at h
    ·cases h
    ·next z hz=>
     split at h
     ·cases h
     ·exact objLoop_kinds hf n _ _ _ _ y h (hf _ hm _ _ _ hz hk)
theorem gobj_kinds{x0:Rcd}{s key:ByteArray}{fs:List GSpec}(hf:∀g ∈ fs,g.Kinds x0):(gobj s key fs).Kinds x0:=λ x a y h hk=>by
 simp only[gobj,objR]at h
 split at h
 ·cases h
 ·split at h
  ·cases h
  ·next z hz=>
   split at h
   ·cases h
   ·cases h;exact objLoop_kinds hf _ _ _ _ _ z hz hk
end Go.Proofs.YtpobhbdomldecaaGreatDoor
namespace Go.Proofs.YtpobhbdomldecaaGreatDoor
open Go.RowKit
set_option linter.unusedSimpArgs false
set_option linter.unusedVariables false
def stopC(f:Nat):List PanicEntry:=[{ v:=.iface 211 (.agg #[.iface 290 (.pointer (some ⟨f,0,none⟩))]),recovered:=false }]
theorem must_ok(k:Int)(w:World):Calls Tryz.prog 250 #[.bool true,.int .i64 k] w λ e w'=>e=.returned (.tuple #[])∧w'=w:=by
 go_enter Tryz.func250,Tryz.ntmps250
 go_wp2
 go_end0
 exact⟨rfl,rfl⟩
theorem must_no(k:Int)(w:World):Calls Tryz.prog 250 #[.bool false,.int .i64 k] w λ e w'=>e=.panicked (stopC w.heap.size)∧w'=w.alloc (.cells #[.int .i64 k,.int .i64 0] 145):=by
 go_enter Tryz.func250,Tryz.ntmps250
 go_wp2
 exact⟨rfl,rfl,rfl⟩
theorem wholeu_ok(n:Int)(w:World):Calls Tryz.prog 207 #[.int .u64 n,.nilIface] w λ e w'=>e=.returned (.int .u64 n)∧w'=w:=by
 go_enter Tryz.func207,Tryz.ntmps207
 go_wp2
 go_ret
 exact⟨rfl,rfl⟩
theorem wholeu_no(n:Int)(f:Nat)(w:World):Calls Tryz.prog 207 #[.int .u64 n,.iface 290 (.pointer (some ⟨f,0,none⟩))] w λ e w'=>e=.panicked (stopC f)∧w'=w:=by
 go_enter Tryz.func207,Tryz.ntmps207
 go_wp2
 exact⟨rfl,rfl,rfl⟩
theorem wholei_ok(n:Int)(w:World):Calls Tryz.prog 244 #[.int .i64 n,.nilIface] w λ e w'=>e=.returned (.int .i64 n)∧w'=w:=by
 go_enter Tryz.func244,Tryz.ntmps244
 go_wp2
 go_ret
 exact⟨rfl,rfl⟩
theorem wholei_no(n:Int)(f:Nat)(w:World):Calls Tryz.prog 244 #[.int .i64 n,.iface 290 (.pointer (some ⟨f,0,none⟩))] w λ e w'=>e=.panicked (stopC f)∧w'=w:=by
 go_enter Tryz.func244,Tryz.ntmps244
 go_wp2
 exact⟨rfl,rfl,rfl⟩
theorem wholes_ok(s:ByteArray)(w:World):Calls Tryz.prog 246 #[.string s,.nilIface] w λ e w'=>e=.returned (.string s)∧w'=w:=by
 go_enter Tryz.func246,Tryz.ntmps246
 go_wp2
 go_ret
 exact⟨rfl,rfl⟩
theorem wholes_no(s:ByteArray)(f:Nat)(w:World):Calls Tryz.prog 246 #[.string s,.iface 290 (.pointer (some ⟨f,0,none⟩))] w λ e w'=>e=.panicked (stopC f)∧w'=w:=by
 go_enter Tryz.func246,Tryz.ntmps246
 go_wp2
 exact⟨rfl,rfl,rfl⟩
def TkIs(res:Except Flt (Int × ByteArray × Nat))(val:Int × ByteArray × Nat→Value)(zero:Value)(rb:Nat)(s:ByteArray)(w:World)(e:Ending)(w':World):Prop:=
 ExtB (some rb) w w'∧match res with
  | .ok x=>e=.returned (.tuple #[val x,.nilIface])∧RdB w' rb s x.2.2 10240
  | .error f=>∃fb,e=.returned (.tuple #[zero,.iface 290 (.pointer (some ⟨fb,0,none⟩))])∧FltB w' fb f.1 f.2∧w.heap.size≤fb
theorem tkIs_ok{x:Int × ByteArray × Nat}{val:Int × ByteArray × Nat→Value}{zero:Value}{rb:Nat}{s:ByteArray}{w w':World}{e:Ending}(h:TkIs (.ok x) val zero rb s w e w'):e=.returned (.tuple #[val x,.nilIface])∧RdB w' rb s x.2.2 10240∧ExtB (some rb) w w':=⟨h.2.1,h.2.2,h.1⟩
theorem tkIs_err{f:Flt}{val:Int × ByteArray × Nat→Value}{zero:Value}{rb:Nat}{s:ByteArray}{w w':World}{e:Ending}(h:TkIs (.error f) val zero rb s w e w'):∃fb,e=.returned (.tuple #[zero,.iface 290 (.pointer (some ⟨fb,0,none⟩))])∧FltB w' fb f.1 f.2∧ExtB (some rb) w w'∧w.heap.size≤fb:=by
 obtain⟨h1,fb,h2,h3,h4⟩:=h;exact⟨fb,h2,h3,h1,h4⟩
theorem tk_text{sort rb a:Nat}{s:ByteArray}{w w':World}{e:Ending}(h12:sort=1 ∨ sort=2)(h:ReadIs (textOf s a 10240 (urowsOf sort)) (.string ⟨#[]⟩) rb s 10240 a w e w'):TkIs (tkR sort s a) (λ x=>.string x.2.1) (.string ⟨#[]⟩) rb s w e w':=by
 obtain⟨h1,h2⟩:=h
 refine⟨h1,?_⟩
 unfold tkR
 rcases textOf_is (s:=s) (a:=a) (most:=10240) h12 with⟨k,e1,e2⟩ | ⟨n,t,a',e1,e2,-,-⟩
 ·rw[e1]at h2;rw[e2]
  obtain⟨-,fb,h3,h5,h4⟩:=h2
  exact⟨fb,h3,h4,h5⟩
 ·rw[e1]at h2;rw[e2]
  exact h2
theorem tk_count{sort rb a:Nat}{s:ByteArray}{w w':World}{e:Ending}(h34:sort=3 ∨ sort=4)(h:ReadIs (countOf s a 10240 (urowsOf sort)) (.int .i64 0) rb s 10240 a w e w'):TkIs (tkR sort s a) (λ x=>.int .i64 x.1) (.int .i64 0) rb s w e w':=by
 obtain⟨h1,h2⟩:=h
 refine⟨h1,?_⟩
 unfold tkR
 rcases countOf_is (s:=s) (a:=a) (most:=10240) h34 with⟨k,e1,e2⟩ | ⟨n,a',e1,e2,-⟩
 ·rw[e1]at h2;rw[e2]
  obtain⟨-,fb,h3,h5,h4⟩:=h2
  exact⟨fb,h3,h4,h5⟩
 ·rw[e1]at h2;rw[e2]
  exact h2
theorem tk_num{rb a:Nat}{s:ByteArray}{w w':World}{e:Ending}(h:ReadIs (numOf s a numsL) (.int .u64 0) rb s 10240 a w e w'):TkIs (tkR 0 s a) (λ x=>.int .u64 x.1) (.int .u64 0) rb s w e w':=by
 obtain⟨h1,h2⟩:=h
 refine⟨h1,?_⟩
 unfold tkR
 rcases numOf_is (s:=s) (a:=a) (most:=10240)with⟨k,e1,e2⟩ | ⟨n,a',e1,e2⟩
 ·rw[e1]at h2;rw[e2]
  obtain⟨-,fb,h3,h5,h4⟩:=h2
  exact⟨fb,h3,h4,h5⟩
 ·rw[e1]at h2;rw[e2]
  exact h2
theorem tkR_bd{sort:Nat}{s:ByteArray}{a:Nat}{x:Int × ByteArray × Nat}(h5:sort<5)(h:tkR sort s a=.ok x):x.2.2≤s.size∧0≤x.1∧(sort≠0→x.1≤10240)∧x.1≤18446744073709551615∧x.2.1.size≤s.size:=by
 unfold tkR at h
 split at h
 ·cases h
 ·next y hy=>
  cases h
  refine⟨takeOf_le hy,?_⟩
  unfold takeOf at hy
  cases hh:headOf (s.extract a s.size) (urowsOf sort)with
  | error k=>rw[hh]at hy;cases hy
  | ok z=>
   obtain⟨n,rest⟩:=z
   rw[hh]at hy
   simp only at hy
   have hok:∀i,(unth (urowsOf sort) i).Ok:=by
    have:sort=0 ∨ sort=1 ∨ sort=2 ∨ sort=3 ∨ sort=4:=by omega
    rcases this with rfl | rfl | rfl | rfl | rfl
    ·exact numsL_ok
    ·exact binsL_ok
    ·exact strsL_ok
    ·exact listsL_ok
    ·exact pairsL_ok
   obtain⟨n0,n1,hr⟩:=head_bd hok hh
   rw[ByteArray.size_extract]at hr
   by_cases h1:sort≠0∧(10240:Int)<n
   ·rw[if_pos h1]at hy;cases hy
   ·rw[if_neg h1]at hy
    have n2:sort≠0→n≤10240:=λ h0=>by
     rcases Int.lt_or_le 10240 n with h2 | h2
     ·exact absurd ⟨h0,h2⟩ h1
     ·exact h2
    split at hy
    ·split at hy
     ·cases hy
     ·cases hy;exact⟨n0,n2,n1,by rw[ByteArray.size_extract];omega⟩
    ·cases hy;exact⟨n0,n2,n1,Nat.zero_le _⟩
structure RdEnv(B:Nat)(w:World)(qb rb:Nat)(s:ByteArray)(a:Nat):Prop where
 q:w.heap[qb]?=some (.cells #[.pointer (some ⟨rb,0,none⟩)] 217 (0,0))
 r:RdB w rb s a 10240
 tabs:Tabs B w
 bq:B≤qb
 br:B≤rb
 ne:qb≠rb
 at_le:a≤s.size
 sz:s.size≤9223372036854775807
theorem RdEnv.below{B:Nat}{w w':World}{qb rb:Nat}{s:ByteArray}{a:Nat}(h:RdEnv B w qb rb s a)(hb:Below w.heap.size w w'):RdEnv B w' qb rb s a:=
 ⟨(hb.block _ (lt_of_block h.q)).trans h.q,h.r.below hb,h.tabs.below hb,h.bq,h.br,h.ne,h.at_le,h.sz⟩
theorem Num_tk(w:World)(B qb rb:Nat)(s:ByteArray)(a:Nat)(h:RdEnv B w qb rb s a):Calls Tryz.prog 208 #[.pointer (some ⟨rb,0,none⟩)] w (TkIs (tkR 0 s a) (λ x=>.int .u64 x.1) (.int .u64 0) rb s w):=
 (Num_any w B rb s a 10240 h.tabs h.r h.at_le h.sz).mono λ e w' hh=>tk_num hh
theorem Bin_tk(w:World)(B qb rb:Nat)(s:ByteArray)(a:Nat)(h:RdEnv B w qb rb s a):Calls Tryz.prog 268 #[.pointer (some ⟨rb,0,none⟩)] w (TkIs (tkR 1 s a) (λ x=>.string x.2.1) (.string ⟨#[]⟩) rb s w):=
 (Bin_any w B rb s a 10240 h.tabs h.r h.at_le h.sz (by decide) (by decide)).mono λ e w' hh=>tk_text (sort:=1) (.inl rfl) hh
theorem Str_tk(w:World)(B qb rb:Nat)(s:ByteArray)(a:Nat)(h:RdEnv B w qb rb s a):Calls Tryz.prog 247 #[.pointer (some ⟨rb,0,none⟩)] w (TkIs (tkR 2 s a) (λ x=>.string x.2.1) (.string ⟨#[]⟩) rb s w):=
 (Str_any w B rb s a 10240 h.tabs h.r h.at_le h.sz (by decide) (by decide)).mono λ e w' hh=>tk_text (sort:=2) (.inr rfl) hh
theorem Map_tk(w:World)(B qb rb:Nat)(s:ByteArray)(a:Nat)(h:RdEnv B w qb rb s a):Calls Tryz.prog 245 #[.pointer (some ⟨rb,0,none⟩)] w (TkIs (tkR 4 s a) (λ x=>.int .i64 x.1) (.int .i64 0) rb s w):=
 (Map_any w B rb s a 10240 h.tabs h.r h.at_le h.sz (by decide) (by decide)).mono λ e w' hh=>tk_count (sort:=4) (.inr rfl) hh
def VIs{α:Type}(res:Except Flt (α × Nat))(val:α→Value)(rb:Nat)(s:ByteArray)(w:World)(e:Ending)(w':World):Prop:=
 ExtB (some rb) w w'∧match res with
  | .ok x=>e=.returned (val x.1)∧RdB w' rb s x.2 10240∧x.2≤s.size
  | .error f=>∃fb,e=.panicked (stopC fb)∧FltB w' fb f.1 f.2
theorem vIs_ok{α:Type}{x:α × Nat}{val:α→Value}{rb:Nat}{s:ByteArray}{w w':World}{e:Ending}(h:VIs (.ok x) val rb s w e w'):e=.returned (val x.1)∧RdB w' rb s x.2 10240∧x.2≤s.size∧ExtB (some rb) w w':=⟨h.2.1,h.2.2.1,h.2.2.2,h.1⟩
theorem vIs_err{α:Type}{f:Flt}{val:α→Value}{rb:Nat}{s:ByteArray}{w w':World}{e:Ending}(h:VIs (.error f:Except Flt (α × Nat)) val rb s w e w'):∃fb,e=.panicked (stopC fb)∧FltB w' fb f.1 f.2∧ExtB (some rb) w w':=by
 obtain⟨h1,fb,h2,h3⟩:=h;exact⟨fb,h2,h3,h1⟩
theorem extB_next{rb:Nat}{a b c:World}(h:ExtB (some rb) a b)(k:Below b.heap.size b c):ExtB (some rb) a c:=ExtB_trans _ _ _ _ h (ext_extB k)
set_option maxRecDepth 100000 in
theorem dgRead_any(B qb rb:Nat)(s:ByteArray)(a:Nat)(w:World)(h:RdEnv B w qb rb s a):
  Calls Tryz.prog 214 #[.pointer (some ⟨qb,0,none⟩)] w (VIs (rdig s a) Value.string rb s w):=by
 have H:=Lib.hid h;have c0:w.cell? ⟨qb,0,none⟩=some (.pointer (some ⟨rb,0,none⟩)):=block_cell h.q 0;clear h
 go_enter Tryz.func214,Tryz.ntmps214
 go_wp2_with fail
 refine(Bin_tk w B qb rb s a H.out).mono ?_
 intro e w1 hh
 cases hr:tkR 1 s a with
 | error f=>
  rw[hr]at hh
  obtain⟨fb,rfl,hf,hE,-⟩:=tkIs_err hh
  have HF:=Lib.hid hf;have HE:=Lib.hid hE;have HR:Hid (rdig s a=.error f):=Lib.hid (by unfold rdig;rw[hr]);clear hh hf hE hr
  go_wp2_with fail
  refine(wholes_no _ fb w1).mono ?_
  rintro e w2 ⟨rfl,rfl⟩
  go_wp2
  refine⟨rfl,?_⟩
  rw[HR.out]
  exact⟨HE.out,fb,rfl,HF.out⟩
 | ok x=>
  rw[hr]at hh
  obtain⟨rfl,hrd,hE⟩:=tkIs_ok hh
  have HRD:=Lib.hid hrd;have HE:=Lib.hid hE;have hbd:=tkR_bd (by decide) hr;have HR:=Lib.hid hr;have hs:=H.out.sz;clear hh hrd hE hr
  go_wp2_with fail
  refine(wholes_ok _ w1).mono ?_
  rintro e w2 ⟨rfl,rfl⟩
  by_cases h32:x.2.1.size=32
  ·have HS:=Lib.hid h32
   have t1:((x.2.1.size:Int) == 32)=true:=by simp;omega
   clear h32
   go_wp2_with fail
   refine(must_ok 5 w2).mono ?_
   rintro e w3 ⟨rfl,rfl⟩
   go_wp2
   go_ret
   unfold rdig
   rw[HR.out]
   simp only[if_pos HS.out]
   exact⟨HE.out,rfl,HRD.out,hbd.1⟩
  ·have HS:=Lib.hid h32
   have t1:((x.2.1.size:Int) == 32)=false:=by simp;omega
   clear h32
   go_wp2_with fail
   refine(must_no 5 w2).mono ?_
   rintro e w3 ⟨rfl,rfl⟩
   go_wp2
   refine⟨rfl,?_⟩
   unfold rdig
   rw[HR.out]
   simp only[if_neg HS.out]
   exact⟨extB_next HE.out (balloc (Below.refl _ _) _),_,rfl,heap_alloc_new _ _⟩
end Go.Proofs.YtpobhbdomldecaaGreatDoor
namespace Go.Proofs.YtpobhbdomldecaaGreatDoor
open Go.RowKit
set_option linter.unusedSimpArgs false
set_option linter.unusedVariables false
structure Rev where
 pos:Int
 L:Int
 signed:Bool
 idx:Int
 wa:Option Addr
 wn:Nat
 wc:Nat
 pa:Option Addr
 pn:Nat
 pc:Nat
 root:ByteArray
 wt:Int
 first:Int
 life:Int
 keys:Int
def Rev.zero:Rev:=⟨0,0,false,0,none,0,0,none,0,0,ByteArray.empty,0,0,0,0⟩
def revnth(l:List Rev)(i:Nat):Rev:=l.getD i Rev.zero
structure RevAt(w:World)(b o:Nat)(r:Rev):Prop where
 c0:w.cell? ⟨b,o,none⟩=some (.int .u64 r.pos)
 c1:w.cell? ⟨b,o+1,none⟩=some (.int .u64 r.L)
 c2:w.cell? ⟨b,o+2,none⟩=some (.bool r.signed)
 c3:w.cell? ⟨b,o+3,none⟩=some (.int .u64 r.idx)
 c4:w.cell? ⟨b,o+4,none⟩=some (.slice r.wa r.wn r.wc)
 c5:w.cell? ⟨b,o+5,none⟩=some (.slice r.pa r.pn r.pc)
 c6:w.cell? ⟨b,o+6,none⟩=some (.string r.root)
 c7:w.cell? ⟨b,o+7,none⟩=some (.int .u64 r.wt)
 c8:w.cell? ⟨b,o+8,none⟩=some (.int .u64 r.first)
 c9:w.cell? ⟨b,o+9,none⟩=some (.int .u64 r.life)
 c10:w.cell? ⟨b,o+10,none⟩=some (.int .u64 r.keys)
def Revs(w:World)(a:Option Addr)(l:List Rev):Prop:=
 ∀i,i<len l→∃b off,a=some ⟨b,off,none⟩∧RevAt w b (off+i * 11) (revnth l i)
end Go.Proofs.YtpobhbdomldecaaGreatDoor
namespace Go.Proofs.YtpobhbdomldecaaGreatDoor
open Go.RowKit
set_option linter.unusedSimpArgs false
set_option linter.unusedVariables false
def sth(l:List ByteArray)(i:Nat):ByteArray:=l.getD i ByteArray.empty
def Txs(w:World)(a:Option Addr)(l:List ByteArray):Prop:=
 ∀i,i<len l→∃b off,a=some ⟨b,off,none⟩∧w.cell? ⟨b,off+i,none⟩=some (.string (sth l i))
end Go.Proofs.YtpobhbdomldecaaGreatDoor
namespace Go.Proofs.YtpobhbdomldecaaGreatDoor
open Go.RowKit
set_option linter.unusedSimpArgs false
set_option linter.unusedVariables false
def hiL(n:Int):Nat→List Int
 | 0=>[]
 | k+1=>(n / 256 ^ k % 256) :: hiL n k
theorem hiL_len(n:Int):∀k,(hiL n k).length=k
 | 0=>rfl
 | k+1=>by rw[hiL,List.length_cons,hiL_len n k]
theorem hiL_snoc(n:Int):∀k,hiL n (k+1)=hiL (n / 256) k++[n % 256]
 | 0=>by simp[hiL]
 | k+1=>by
  have e:n / 256 / 256 ^ k=n / (256 * 256 ^ k):=by rw[Int.ediv_ediv];simp
  rw[hiL,hiL_snoc n k,hiL,List.cons_append,e,Int.pow_succ,Int.mul_comm]
def toB(x:Int):UInt8:=UInt8.ofNat x.toNat
theorem toB_nat(x:UInt8):toB (x.toNat:Int)=x:=by simp[toB]
theorem nat_toB{x:Int}(h0:0≤x)(h1:x≤255):((toB x).toNat:Int)=x:=by
 unfold toB;rw[UInt8.toNat_ofNat'];omega
theorem ba_ext{s t:ByteArray}(h:s.data.toList=t.data.toList):s=t:=ByteArray.ext (Array.ext' h)
theorem ba_len(s:ByteArray):s.data.toList.length=s.size:=by rw[Array.length_toList];rfl
def baL(l:List UInt8):ByteArray:=⟨l.toArray⟩
theorem baL_list(l:List UInt8):(baL l).data.toList=l:=rfl
theorem baL_size(l:List UInt8):(baL l).size=l.length:=by show l.toArray.size=_;simp
theorem baL_app(a b:List UInt8):baL (a++b)=baL a++baL b:=ba_ext (by rw[baL_list,ByteArray.data_append,Array.toList_append,baL_list,baL_list])
structure PRow where
 below:Int
 first:Int
 size:Int
abbrev PRow.val(r:PRow):Value:=.agg #[.int .u64 r.below,.int .u8 r.first,.int .i64 r.size]
def PRow.cells(r:PRow):List Value:=[.int .u64 r.below,.int .u8 r.first,.int .i64 r.size]
def PRow.zero:PRow:=⟨0,0,0⟩
def prth(l:List PRow)(i:Nat):PRow:=l.getD i PRow.zero
theorem prth_eq(l:List PRow)(i:Nat)(h:i<l.length):prth l i=l[i]:=by unfold prth;rw[List.getD_eq_getElem?_getD,List.getElem?_eq_getElem h];rfl
structure PRowAt(w:World)(b o:Nat)(r:PRow):Prop where
 c0:w.cell? ⟨b,o,none⟩=some (.int .u64 r.below)
 c1:w.cell? ⟨b,o+1,none⟩=some (.int .u8 r.first)
 c2:w.cell? ⟨b,o+2,none⟩=some (.int .i64 r.size)
theorem PRowAt.below{w w':World}{b o:Nat}{r:PRow}(h:PRowAt w b o r)(hb:Below w.heap.size w w'):PRowAt w' b o r:=by
 have hl:=lt_of_cell h.c0;have e:∀q,w'.cell? ⟨b,q,none⟩=w.cell? ⟨b,q,none⟩:=λ q=>hb.cell (p:=⟨b,q,none⟩) hl
 obtain⟨c0,c1,c2⟩:=h
 constructor <;> (rw[e];assumption)
def PRows(w:World)(a:Option Addr)(l:List PRow):Prop:=∀i,i<len l→∃b off,a=some ⟨b,off,none⟩∧PRowAt w b (off+i * 3) (prth l i)
theorem PRows.take{w:World}{a:Option Addr}{l:List PRow}(h:PRows w a l)(k:Nat):PRows w a (l.take k):=λ i hi=>by
 have hi2:i<l.length∧i<k:=by simp only[len,List.length_take]at hi;omega
 have hi3:i<(l.take k).length:=hi;have e:prth (l.take k) i=prth l i:=by rw[prth_eq l i hi2.1,prth_eq _ i hi3,List.getElem_take]
 rw[e];exact h i hi2.1
theorem PRows.drop{w:World}{b off:Nat}{l:List PRow}(h:PRows w (some ⟨b,off,none⟩) l)(k:Nat):PRows w (some ⟨b,off+k * 3,none⟩) (l.drop k):=λ i hi=>by
 have hi2:k+i<l.length:=by simp only[len,List.length_drop]at hi;omega
 have hi3:i<(l.drop k).length:=hi;have e:prth (l.drop k) i=prth l (k+i):=by rw[prth_eq l _ hi2,prth_eq _ i hi3,List.getElem_drop]
 obtain⟨b',off',e2,hc⟩:=h (k+i) hi2
 cases e2
 exact⟨b,_,rfl,by rw[e,show off+k * 3+i * 3=off+(k+i) * 3 by omega];exact hc⟩
def rowB(r:PRow)(n:Int):List UInt8:=if r.size=0 then [toB (r.first+n)]else toB r.first :: (hiL n r.size.toNat).map toB
def hrowsP(sort:Nat):List PRow:=
 match sort with
 | 1=>[⟨256,196,1⟩,⟨65536,197,2⟩]
 | 2=>[⟨32,160,0⟩,⟨256,217,1⟩,⟨65536,218,2⟩]
 | 3=>[⟨16,144,0⟩,⟨65536,220,2⟩]
 | 4=>[⟨16,128,0⟩,⟨65536,222,2⟩]
 | _=>[⟨128,0,0⟩,⟨256,204,1⟩,⟨65536,205,2⟩,⟨4294967296,206,4⟩,⟨0,207,8⟩]
def headP(sort:Nat)(n:Int):List UInt8:=
 match (hrowsP sort).find? (λ r=>decide (n<r.below ∨ r.below=0))with
 | some r=>rowB r n
 | none=>[]
def laidP(sort:Nat)(n:Int)(t:ByteArray):ByteArray:=baL (headP sort n)++(if sort=1 ∨ sort=2 then t else ByteArray.empty)
theorem headP0(n:Int):headP 0 n=if n<128 then [toB n]else if n<256 then toB 204 :: (hiL n 1).map toB else if n<65536 then toB 205 :: (hiL n 2).map toB else if n<4294967296 then toB 206 :: (hiL n 4).map toB else toB 207 :: (hiL n 8).map toB:=by
 unfold headP hrowsP rowB
 by_cases h1:n<128
 ·simp[h1]
 ·by_cases h2:n<256
  ·simp[h1,h2]
  ·by_cases h3:n<65536
   ·simp[h1,h2,h3]
   ·by_cases h4:n<4294967296
    ·simp[h1,h2,h3,h4]
    ·simp[h1,h2,h3,h4]
theorem headP1{n:Int}(h:n<65536):headP 1 n=if n<256 then toB 196 :: (hiL n 1).map toB else toB 197 :: (hiL n 2).map toB:=by
 unfold headP hrowsP rowB
 by_cases h1:n<256
 ·simp[h1]
 ·simp[h1,h]
theorem headP2{n:Int}(h:n<65536):headP 2 n=if n<32 then [toB (160+n)]else if n<256 then toB 217 :: (hiL n 1).map toB else toB 218 :: (hiL n 2).map toB:=by
 unfold headP hrowsP rowB
 by_cases h1:n<32
 ·simp[h1]
 ·by_cases h2:n<256
  ·simp[h1,h2]
  ·simp[h1,h2,h]
theorem headP3{n:Int}(h:n<65536):headP 3 n=if n<16 then [toB (144+n)]else toB 220 :: (hiL n 2).map toB:=by
 unfold headP hrowsP rowB
 by_cases h1:n<16
 ·simp[h1]
 ·simp[h1,h]
theorem headP4{n:Int}(h:n<65536):headP 4 n=if n<16 then [toB (128+n)]else toB 222 :: (hiL n 2).map toB:=by
 unfold headP hrowsP rowB
 by_cases h1:n<16
 ·simp[h1]
 ·simp[h1,h]
theorem headP_len(sort:Nat)(n:Int):(headP sort n).length≤9:=by
 unfold headP
 split
 ·rename_i r hr
  have hm:=List.mem_of_find?_eq_some hr
  unfold rowB
  split
  ·simp
  ·rw[List.length_cons,List.length_map,hiL_len]
   unfold hrowsP at hm
   split at hm <;> simp at hm <;> (first | (rcases hm with rfl | rfl | rfl | rfl | rfl <;> simp) | (rcases hm with rfl | rfl | rfl <;> simp) | (rcases hm with rfl | rfl <;> simp))
 ·simp
end Go.Proofs.YtpobhbdomldecaaGreatDoor
namespace Go.Proofs.YtpobhbdomldecaaGreatDoor
open Go.RowKit
set_option linter.unusedSimpArgs false
set_option linter.unusedVariables false
theorem info_u8:(Tryz.prog.info? 5).map (λ i=>(i.zero,i.size,i.bytes))=some (some (.int .u8 0),1,1):=by kernel_rfl
theorem one_u8(x:Int):∀u ∈ [Value.int .u8 x],u.oneCell'=true:=by
 intro u hu;simp at hu;subst hu;rfl
def Not8(x:Obj):Prop:=∀cs fr,x≠.cells cs 5 fr
theorem not8_cells{cs:Array Value}{t:TypeId}{fr:Nat × Nat}(h:t≠5):Not8 (.cells cs t fr):=λ _ _ e=>by cases e;exact h rfl
structure WK(base b:Nat)(w w':World):Prop where
 bel:Below base w w'
 keep:∀k x,w.heap[k]?=some x→k≠b→Not8 x→w'.heap[k]?=some x
theorem WK.refl(base b:Nat)(w:World):WK base b w w:=⟨Below.refl _ _,λ _ _ h _ _=>h⟩
theorem WK.trans{base b:Nat}{w w' w'':World}(h:WK base b w w')(k:WK base b w' w''):WK base b w w'':=⟨h.bel.trans k.bel,λ j x hx hj hn=>k.keep j x (h.keep j x hx hj hn) hj hn⟩
theorem WK.of_below{base b:Nat}{w w':World}(h:Below w.heap.size w w')(hb:base≤w.heap.size):WK base b w w':=⟨h.mono hb,λ k x hx _ _=>(h.block k (lt_of_block hx)).trans hx⟩
theorem WK.next{base b:Nat}{w w1 w2:World}(h:WK base b w w1)(k:Below w1.heap.size w1 w2)(hb:base≤w.heap.size):WK base b w w2:=h.trans (WK.of_below k (Nat.le_trans hb h.bel.size))
def WrB(w:World)(b base:Nat)(s:ByteArray):Prop:=base≤b∧∃v,w.heap[b]?=some (.cells #[v] 233 (0,0))∧w.ownsRow base 5 1 v s.size (Lib.strCells s)
theorem WrB.below{w w':World}{b base:Nat}{s:ByteArray}(h:WrB w b base s)(hb:Below w.heap.size w w'):WrB w' b base s:=by
 obtain⟨h0,v,h1,h2⟩:=h
 exact⟨h0,v,(hb.block _ (lt_of_block h1)).trans h1,own_below h2 hb⟩
theorem WrB.lt{w:World}{b base:Nat}{s:ByteArray}(h:WrB w b base s):b<w.heap.size:=by
 obtain⟨h0,v,h1,h2⟩:=h;exact lt_of_block h1
theorem own_not8{w:World}{base e n k:Nat}{v:Value}{xs:List Value}{x:Obj}(h:w.ownsRow base 5 e v n xs)(hk:w.heap[k]?=some x)(hx:Not8 x):some k≠v.ownBlock:=by
 rcases h.2 with⟨rfl,_⟩ | ⟨g,cap,cur,rfl,_,hg,_⟩
 ·intro e;cases e
 ·intro e
  obtain rfl:k=g:=by simpa [Value.ownBlock] using e
  rw[hg]at hk
  cases hk
  exact hx _ _ rfl
theorem wr_step{w w1:World}{b base n:Nat}{v v':Value}{xs ys:List Value}{s':ByteArray}(hb:base≤b)(h1:w.heap[b]?=some (.cells #[v] 233 (0,0)))(hown:w.ownsRow base 5 1 v n xs)(hE:ExtB v.ownBlock w.drew w1)
  (hown':w1.ownsRow base 5 1 v' s'.size ys) (hy:ys=Lib.strCells s'):
  w1.cell? ⟨b,0,none⟩=some v∧w1.frozen? ⟨b,0,none⟩=false∧WrB (w1.setCell ⟨b,0,none⟩ v') b base s'∧WK base b w (w1.setCell ⟨b,0,none⟩ v'):=by
 have hn8:Not8 (.cells #[v] 233 (0,0)):=not8_cells (by decide);have hlt:=lt_of_block h1;have hb1:w1.heap[b]?=some (.cells #[v] 233 (0,0)):=by
  rw[hE.block b hlt (own_not8 hown h1 hn8)];exact h1
 have hne:=own_not8 hown' hb1 hn8
 refine⟨block_cell hb1 0,block_free hb1 0,⟨hb,v',block_setCell hb1 v',?_⟩,⟨?_,λ k x hx hk hnx=>?_⟩⟩
 ·subst hy
  refine hown'.kept ⟨rfl,rfl,rfl,(by simp[World.setCell]),λ k _ hk=>Below.heap_setCell _ _ _ k (λ e=>hk (by rw[e]))⟩ (row:=some b) (.inr (λ e=>hne e.symm))
 ·refine Below.setCell (Below.grown ((Below.refl base w).drew) hE (by show base≤w.heap.size;omega) (λ k hk=>(hown.lt k hk).1)) hb v'
 ·rw[Below.heap_setCell _ _ _ _ hk,hE.block k (lt_of_block hx) (own_not8 hown hx hnx)];exact hx
theorem own_slice{w:World}{base e n:Nat}{v:Value}{xs:List Value}(h:w.ownsRow base e 1 v (n+1) xs):∃g cap,v=.slice (some ⟨g,0,none⟩) (n+1) cap:=by
 rcases h.2 with⟨_,h2⟩ | ⟨g,cap,cur,h3,_⟩
 ·omega
 ·exact⟨g,cap,h3⟩
theorem strCells_app(s t:ByteArray):Lib.strCells (s++t)=Lib.strCells s++Lib.strCells t:=by
 unfold Lib.strCells;rw[ByteArray.data_append,Array.toList_append,List.map_append]
theorem strCells_one{y:Int}(h0:0≤y)(h1:y≤255):Lib.strCells (baL [toB y])=[.int .u8 y]:=by
 unfold Lib.strCells;rw[baL_list,List.map_cons,List.map_nil,nat_toB h0 h1]
theorem baL_one(s:ByteArray)(x:UInt8):(s++baL [x]).size=s.size+1:=by rw[ByteArray.size_append,baL_size];rfl
end Go.Proofs.YtpobhbdomldecaaGreatDoor
namespace Go.Proofs.YtpobhbdomldecaaGreatDoor
open Go.RowKit
set_option linter.unusedSimpArgs false
set_option linter.unusedVariables false
structure PRow.Ok(r:PRow)(n:Int):Prop where
 b0:0≤r.below
 b1:r.below≤18446744073709551615
 f0:0≤r.first
 f1:r.first≤255
 s0:0≤r.size
 s1:r.size≤8
 fit:r.size=0→(n<r.below ∨ r.below=0)→r.first+n≤255
def Head1Is(r:PRow)(n:Int)(s:ByteArray)(b base:Nat)(w:World)(e:Ending)(w':World):Prop:=
 e=.returned (.bool (decide (n<r.below ∨ r.below=0)))∧WrB w' b base (if n<r.below ∨ r.below=0 then s++baL (rowB r n)else s)∧WK base b w w'
theorem hi_next(n:Int)(k i:Nat)(h:i<k):(hiL n k).take (k - i)=(hiL n k).take (k - (i+1))++[n / 256 ^ i % 256]:=by
 have hl:=hiL_len n k;have key:∀k,i<k→(hiL n k)[k - (i+1)]?=some (n / 256 ^ i % 256):=by
  intro k
  induction k with
  | zero=>intro h;omega
  | succ k ih=>
   intro h
   rw[hiL]
   by_cases e:i=k
   ·subst e;simp
   ·have h2:=ih (by omega)
    rw[show k+1 - (i+1)=(k - (i+1))+1 by omega,List.getElem?_cons_succ];exact h2
 have h3:=key k h
 rw[show k - i=k - (i+1)+1 by omega,List.take_add_one,h3];rfl
set_option maxRecDepth 100000 in
set_option maxHeartbeats 4000000 in
theorem head1_any(r:PRow)(bn bw b base:Nat)(n:Int)(s:ByteArray)(w:World)(hn:w.heap[bn]?=some (.cells #[.int .u64 n] 23 (0,0)))(hw:w.heap[bw]?=some (.cells #[.pointer (some ⟨b,0,none⟩)] 177 (0,0)))
  (hW:WrB w b base s) (h0:0≤n) (h1:n≤18446744073709551615) (hr:r.Ok n) (hs:s.size≤70000000000000):
  Calls Tryz.prog 291 #[r.val,.pointer (some ⟨bn,0,none⟩),.pointer (some ⟨bw,0,none⟩)] w (Head1Is r n s b base w):=by
 have HR:=Lib.hid hr;have HN:=Lib.hid hn;have HW2:=Lib.hid hw;have HWR:=Lib.hid hW;have cn:=block_cell hn 0;have cw:=block_cell hw 0
 simp only[List.getElem?_toArray,List.getElem?_cons_zero]at cn cw
 have lbn:=lt_of_block hn;have lbw:=lt_of_block hw;clear hr hn hw hW
 unfold PRow.val
 by_cases hx:n<r.below ∨ r.below=0
 ·have HX:Hid (decide (n<r.below ∨ r.below=0)=true):=Lib.hid (decide_eq_true hx)
  have hcase:decide (r.below≤n)=false ∨ (decide (r.below≤n)=true∧decide (0<r.below)=false):=by
   rcases hx with h | h
   ·exact .inl (decide_eq_false (by omega))
   ·exact .inr ⟨decide_eq_true (by omega),decide_eq_false (by omega)⟩
  have HCS:=Lib.hid hcase;have hfit:=λ h=>HR.out.fit h hx;have HFIT:=Lib.hid hfit;have HIF:Hid ((if n<r.below ∨ r.below=0 then s++baL (rowB r n)else s)=s++baL (rowB r n)):=Lib.hid (if_pos hx);have f0:=HR.out.f0;have f1:=HR.out.f1;have s0:=HR.out.s0;have s1:=HR.out.s1;clear hx hfit hcase
  obtain⟨hbase,v,hv,hown⟩:=HWR.out
  have n8w:Not8 (.cells #[v] 233 (0,0)):=not8_cells (by decide);have n8n:Not8 (.cells #[.int .u64 n] 23 (0,0)):=not8_cells (by decide);have n8b:Not8 (.cells #[.pointer (some ⟨b,0,none⟩)] 177 (0,0)):=not8_cells (by decide);have n8r:Not8 (.cells #[.int .u64 r.below,.int .u8 r.first,.int .i64 r.size] 336 (0,0)):=not8_cells (by decide)
  obtain⟨i0,hi,hz0,hz1,hz2⟩:=info_parts info_u8
  have cb:=block_cell hv 0
  simp only[List.getElem?_toArray,List.getElem?_cons_zero]at cb
  have HV:=Lib.hid hv;have HOWN0:=Lib.hid hown;have hltb:=HWR.out.lt;have HBS:Hid (base≤w.heap.size):=Lib.hid (by omega);clear hv hown;have hcs:=HCS.out;clear HCS
  rcases hcs with g1 | ⟨g1,g2⟩
  ·skip
   go_enter Tryz.func291,Tryz.ntmps291
   by_cases hsz:r.size=0
   ·have e0:(r.size == 0)=true:=by simpa using hsz
    have HSZ:=Lib.hid hsz;clear hsz
    go_upto_region 4 with fail
    obtain⟨br,hbr⟩:∃br,w.heap.size=br:=⟨_,rfl⟩
    obtain⟨V,hV⟩:∃V,w.alloc (.cells #[.int .u64 r.below,.int .u8 r.first,.int .i64 r.size] 336)=V:=⟨_,rfl⟩
    have VB:Hid (Below w.heap.size w V):=Lib.hid (by rw[←hV];exact balloc (Below.refl _ _) _);have VR:Hid (V.heap[br]?=some (.cells #[.int .u64 r.below,.int .u8 r.first,.int .i64 r.size] 336 (0,0))):=Lib.hid (by rw[←hV,←hbr];exact heap_alloc_new _ _);have VN:Hid (V.heap[bn]?=some (.cells #[.int .u64 n] 23 (0,0))):=Lib.hid ((VB.out.block _ (lt_of_block HN.out)).trans HN.out);have VW:Hid (V.heap[bw]?=some (.cells #[.pointer (some ⟨b,0,none⟩)] 177 (0,0))):=Lib.hid ((VB.out.block _ (lt_of_block HW2.out)).trans HW2.out);have VV:Hid (V.heap[b]?=some (.cells #[v] 233 (0,0))):=Lib.hid ((VB.out.block _ hltb).trans HV.out);have HOWN:=Lib.hid (own_below HOWN0.out VB.out);have HQ:Hid (∀g,v.ownBlock=some g→base≤g∧g<V.heap.size):=Lib.hid (λ g hg=>HOWN.out.lt g hg);have n1:=own_not8 HOWN.out VN.out n8n;have n2:=own_not8 HOWN.out VW.out n8b;have n3:=own_not8 HOWN.out VR.out n8r;have n4:=own_not8 HOWN.out VV.out n8w;have c1:V.cell? ⟨bn,0,none⟩=some (.int .u64 n):=block_cell VN.out 0;have c2:V.cell? ⟨bw,0,none⟩=some (.pointer (some ⟨b,0,none⟩)):=block_cell VW.out 0;have c3:V.cell? ⟨br,1,none⟩=some (.int .u8 r.first):=block_cell VR.out 1;have c4:V.cell? ⟨b,0,none⟩=some v:=block_cell VV.out 0;have hbV:base≤V.heap.size:=Nat.le_trans hbase (Nat.le_of_lt (lt_of_block VV.out))
    obtain⟨y,hy⟩:∃y,r.first+n=y:=⟨_,rfl⟩
    have hy1:y≤255:=by rw[←hy];exact HFIT.out HSZ.out
    have y0:IntKind.u8.wrap n=n:=IntWalk.u8_in _ (by omega);have y1:IntKind.u8.wrap (r.first+n)=y:=by rw[hy];exact IntWalk.u8_in _ (by omega)
    have hy0:0≤y:=by omega
    have HY:=Lib.hid hy
    rw[hbr]
    try rw[hV]
    clear hV hbr hy cn cw cb
    refine wp_region_tail 14 11 (v.ownBlock) (phis [λ u _=>u=(.pointer (some ⟨b,0,none⟩)),λ u _=>u=(.pointer (some ⟨b,0,none⟩)),λ u _=>u=(.pointer (some ⟨b,0,none⟩)),λ u _=>u=(.pointer (some ⟨b,0,none⟩)),λ u _=>u=(v),λ u _=>u=(.pointer (some ⟨br,1,none⟩)),λ u _=>u=(.int .u8 r.first),λ u _=>u=(.int .u64 n),λ u _=>u=(.int .u8 n),λ u _=>u=(.int .u8 y),λ u w'=>∃b,u=.slice (some ⟨b,0,none⟩) 1 1∧some b≠v.ownBlock∧w'.heap[b]?=some (.cells ([.int .u8 y]).toArray 5 (0,0)),λ u w'=>w'.ownsRow (base) 5 1 u (s.size+1) (Lib.strCells s++[.int .u8 y]),λ u _=>u=(.pointer (some ⟨b,0,none⟩)),λ u _=>u=(.pointer (some ⟨b,0,none⟩))]) rfl (by kernel_rfl) (by kernel_rfl) (mono_of ⟨mono_eq,mono_eq,mono_eq,mono_eq,mono_eq,mono_eq,mono_eq,mono_eq,mono_eq,mono_eq,?m10,?m11,mono_eq,mono_eq,trivial⟩) (steps_of 14 ⟨?s0,?s1,?s2,?s3,?s4,?s5,?s6,?s7,?s8,?s9,?s10,?s11,?s12,?s13,trivial⟩) ?_
    case m10=>
     exact⟨λ u w1 w' h ⟨b,h1,hb,hb'⟩=>⟨b,h1,hb,ext_block h hb'⟩,λ _ u w1 w' h ⟨b,h1,hb,hb'⟩=>⟨b,h1,hb,extB_block h hb hb'⟩⟩
    case m11=>
     exact⟨λ u w1 w' h hu=>own_below hu h,λ hn=>absurd rfl hn⟩
    case s0=>
     refine step_val (v:=(.pointer (some ⟨b,0,none⟩))) (λ av wv hE hS hO hD=>?_) (λ _=>rfl)
     have f2:=QEf av 2 (.pointer (some ⟨bw,0,none⟩)) (hO.2.2 2 rfl);have c1:=extB_cell hE n1 c1;have c2:=extB_cell hE n2 c2;have c3:=extB_cell hE n3 c3;have c4:=extB_cell hE n4 c4
     refine⟨rfl,?_⟩
     simp[go_sem,f2,c1,c2,c3,c4,y0,y1]
    case s1=>
     refine step_val (v:=(.pointer (some ⟨b,0,none⟩))) (λ av wv hE hS hO hD=>?_) (λ _=>rfl)
     have f2:=QEf av 2 (.pointer (some ⟨bw,0,none⟩)) (hO.2.2 2 rfl);have c1:=extB_cell hE n1 c1;have c2:=extB_cell hE n2 c2;have c3:=extB_cell hE n3 c3;have c4:=extB_cell hE n4 c4
     refine⟨rfl,?_⟩
     simp[go_sem,f2,c1,c2,c3,c4,y0,y1]
    case s2=>
     refine step_val (v:=(.pointer (some ⟨b,0,none⟩))) (λ av wv hE hS hO hD=>?_) (λ _=>rfl)
     have f19:=QEf av 19 (.pointer (some ⟨b,0,none⟩)) (hD.1 rfl _ rfl)
     refine⟨rfl,?_⟩
     simp[go_sem,f19,y0,y1]
    case s3=>
     refine step_val (v:=(.pointer (some ⟨b,0,none⟩))) (λ av wv hE hS hO hD=>?_) (λ _=>rfl)
     have f20:=QEf av 20 (.pointer (some ⟨b,0,none⟩)) (hD.1 rfl _ rfl)
     refine⟨rfl,?_⟩
     simp[go_sem,f20,y0,y1]
    case s4=>
     refine step_val (v:=(v)) (λ av wv hE hS hO hD=>?_) (λ _=>rfl)
     have f21:=QEf av 21 (.pointer (some ⟨b,0,none⟩)) (hD.1 rfl _ rfl);have c1:=extB_cell hE n1 c1;have c2:=extB_cell hE n2 c2;have c3:=extB_cell hE n3 c3;have c4:=extB_cell hE n4 c4
     refine⟨rfl,?_⟩
     simp[go_sem,f21,c1,c2,c3,c4,y0,y1]
    case s5=>
     refine step_val (v:=(.pointer (some ⟨br,1,none⟩))) (λ av wv hE hS hO hD=>?_) (λ _=>rfl)
     have f3:=QEf av 3 (.pointer (some ⟨br,0,none⟩)) (hO.2.2 3 rfl)
     refine⟨rfl,?_⟩
     simp[go_sem,f3,y0,y1]
    case s6=>
     refine step_val (v:=(.int .u8 r.first)) (λ av wv hE hS hO hD=>?_) (λ _=>rfl)
     have f23:=QEf av 23 (.pointer (some ⟨br,1,none⟩)) (hD.1 rfl _ rfl);have c1:=extB_cell hE n1 c1;have c2:=extB_cell hE n2 c2;have c3:=extB_cell hE n3 c3;have c4:=extB_cell hE n4 c4
     refine⟨rfl,?_⟩
     simp[go_sem,f23,c1,c2,c3,c4,y0,y1]
    case s7=>
     refine step_val (v:=(.int .u64 n)) (λ av wv hE hS hO hD=>?_) (λ _=>rfl)
     have f1:=QEf av 1 (.pointer (some ⟨bn,0,none⟩)) (hO.2.2 1 rfl);have c1:=extB_cell hE n1 c1;have c2:=extB_cell hE n2 c2;have c3:=extB_cell hE n3 c3;have c4:=extB_cell hE n4 c4
     refine⟨rfl,?_⟩
     simp[go_sem,f1,c1,c2,c3,c4,y0,y1]
    case s8=>
     refine step_val (v:=(.int .u8 n)) (λ av wv hE hS hO hD=>?_) (λ _=>rfl)
     have f25:=QEf av 25 (.int .u64 n) (hD.1 rfl _ rfl)
     refine⟨rfl,?_⟩
     simp[go_sem,f25,y0,y1]
    case s9=>
     refine step_val (v:=(.int .u8 y)) (λ av wv hE hS hO hD=>?_) (λ _=>rfl)
     have f24:=QEf av 24 (.int .u8 r.first) (hD.1 rfl _ rfl);have f26:=QEf av 26 (.int .u8 n) (hD.2.1 rfl _ rfl)
     refine⟨rfl,?_⟩
     simp[go_sem,f24,f26,y0,y1]
    case s10=>
     refine step_wp (λ av wv hE hS hO hD=>?_)
     have f27:=QEf av 27 (.int .u8 y) (hD.1 rfl _ rfl)
     refine⟨rfl,?_⟩
     refine wp_of_run (v:=.slice (some ⟨wv.heap.size,0,none⟩) 1 1) (w':=wv.alloc (.cells ([.int .u8 y]).toArray 5)) (by first | (simp[go_sem,f27,y0,y1];done) | (simp[go_sem,f27,y0,y1];rfl)) ⟨_,rfl,es_of_ext (balloc (Ext_refl _) _),wv.heap.size,rfl,?_,heap_alloc_new _ _⟩
     exact λ e=>absurd (HQ.out _ e.symm).2 (by have:=hE.size;simp at this;omega)
    case s11=>
     refine step_wp (λ av wv hE hS hO hD=>?_)
     have d22:av.eval (.tmp 22)=(v):=hD.1 rfl _ rfl;have f22:=(ev_form av 22).symm.trans d22;have d28:(λ u w'=>∃b,u=.slice (some ⟨b,0,none⟩) 1 1∧some b≠v.ownBlock∧w'.heap[b]?=some (.cells ([.int .u8 y]).toArray 5 (0,0))) (av.eval (.tmp 28)) wv:=hD.2.1 rfl _ rfl
     refine⟨rfl,?_⟩
     obtain⟨bS,hS1,hbS,hcS⟩:=d28
     have hown1:wv.ownsRow (base) 5 1 (v) (s.size) (Lib.strCells s):=own_below (w:=World.drew _) (HOWN.out) (hS rfl)
     refine wp_append_lies wv _ _ _ rfl (base) 5 i0 (.int .u8 0) 1 1 Tryz.underlying41 hi hz0 hz1 hz2 rfl (by decide) (v) (s.size) _ d22 hown1 ⟨bS,0,none⟩ 1 1 ([.int .u8 y]) (by exact hS1) rfl (World.news_of_block hcS) (one_u8 _) (by decide) (by unfold maxLen;omega) (by omega) (by have:=hE.size;simp at this;omega) _ rfl ?_
     intro g cap1 w2 hown2 hgrow hat hlt2
     exact⟨_,rfl,es_sp hgrow,hown2⟩
    case s12=>
     refine step_val (v:=(.pointer (some ⟨b,0,none⟩))) (λ av wv hE hS hO hD=>?_) (λ _=>rfl)
     have f18:=QEf av 18 (.pointer (some ⟨b,0,none⟩)) (hD.1 rfl _ rfl)
     refine⟨rfl,?_⟩
     simp[go_sem,f18,y0,y1]
    case s13=>
     refine step_val (v:=(.pointer (some ⟨b,0,none⟩))) (λ av wv hE hS hO hD=>?_) (λ _=>rfl)
     have f30:=QEf av 30 (.pointer (some ⟨b,0,none⟩)) (hD.1 rfl _ rfl)
     refine⟨rfl,?_⟩
     simp[go_sem,f30,y0,y1]
    intro a' w' hE hO hall
    have hA:=act_of_outer (ds:=[18,19,20,21,22,23,24,25,26,27,28,29,30,31]) rfl hO (by kernel_rfl);have e18:a'.eval (.tmp 18)=(.pointer (some ⟨b,0,none⟩)):=hall.1 _ rfl;have e19:a'.eval (.tmp 19)=(.pointer (some ⟨b,0,none⟩)):=hall.2.1 _ rfl;have e20:a'.eval (.tmp 20)=(.pointer (some ⟨b,0,none⟩)):=hall.2.2.1 _ rfl;have e21:a'.eval (.tmp 21)=(.pointer (some ⟨b,0,none⟩)):=hall.2.2.2.1 _ rfl;have e22:a'.eval (.tmp 22)=(v):=hall.2.2.2.2.1 _ rfl;have e23:a'.eval (.tmp 23)=(.pointer (some ⟨br,1,none⟩)):=hall.2.2.2.2.2.1 _ rfl;have e24:a'.eval (.tmp 24)=(.int .u8 r.first):=hall.2.2.2.2.2.2.1 _ rfl;have e25:a'.eval (.tmp 25)=(.int .u64 n):=hall.2.2.2.2.2.2.2.1 _ rfl;have e26:a'.eval (.tmp 26)=(.int .u8 n):=hall.2.2.2.2.2.2.2.2.1 _ rfl;have e27:a'.eval (.tmp 27)=(.int .u8 y):=hall.2.2.2.2.2.2.2.2.2.1 _ rfl;have e28:(λ u w'=>∃b,u=.slice (some ⟨b,0,none⟩) 1 1∧some b≠v.ownBlock∧w'.heap[b]?=some (.cells ([.int .u8 y]).toArray 5 (0,0))) (a'.eval (.tmp 28)) w':=hall.2.2.2.2.2.2.2.2.2.2.1 _ rfl;have e29:(λ u w'=>w'.ownsRow (base) 5 1 u (s.size+1) (Lib.strCells s++[.int .u8 y])) (a'.eval (.tmp 29)) w':=hall.2.2.2.2.2.2.2.2.2.2.2.1 _ rfl;have e30:a'.eval (.tmp 30)=(.pointer (some ⟨b,0,none⟩)):=hall.2.2.2.2.2.2.2.2.2.2.2.2.1 _ rfl;have e31:a'.eval (.tmp 31)=(.pointer (some ⟨b,0,none⟩)):=hall.2.2.2.2.2.2.2.2.2.2.2.2.2.1 _ rfl
    obtain⟨v28,hv28⟩:∃v,a'.eval (.tmp 28)=v:=⟨_,rfl⟩
    rw[hv28]at e28
    obtain⟨v29,hv29⟩:∃v,a'.eval (.tmp 29)=v:=⟨_,rfl⟩
    rw[hv29]at e29
    simp only[List.foldl_cons,List.foldl_nil,Act.put,List.setIfInBounds_toArray,List.set_cons_succ,List.set_cons_zero,e18,e19,e20,e21,e22,e23,e24,e25,e26,e27,hv28,hv29,e30,e31]at hA
    clear hO hall e18 e19 e20 e21 e22 e23 e24 e25 e26 e27 hv28 hv29 e30 e31
    subst hA
    obtain⟨ga,gc,rfl⟩:=own_slice e29
    have hst:=wr_step (s':=s++baL [toB y]) hbase VV.out HOWN.out hE (by rw[baL_one];exact e29) (by rw[strCells_app,strCells_one hy0 hy1]);have HST:=Lib.hid hst;have hc4:=hst.1;have hf4:=hst.2.1;clear hst hE e29
    go_wp2
    go_ret
    refine⟨ret_bool HX.out.symm,?_,(WK.of_below VB.out HBS.out).trans HST.out.2.2.2⟩
    rw[HIF.out]
    have e4:rowB r n=[toB y]:=by unfold rowB;rw[if_pos HSZ.out,HY.out]
    rw[e4];exact HST.out.2.2.1
   ·have e0:(r.size == 0)=false:=by simpa using hsz
    have HSZ:=Lib.hid hsz;clear hsz
    go_upto_region 6 with fail
    obtain⟨br,hbr⟩:∃br,w.heap.size=br:=⟨_,rfl⟩
    obtain⟨V,hV⟩:∃V,w.alloc (.cells #[.int .u64 r.below,.int .u8 r.first,.int .i64 r.size] 336)=V:=⟨_,rfl⟩
    have VB:Hid (Below w.heap.size w V):=Lib.hid (by rw[←hV];exact balloc (Below.refl _ _) _);have VR:Hid (V.heap[br]?=some (.cells #[.int .u64 r.below,.int .u8 r.first,.int .i64 r.size] 336 (0,0))):=Lib.hid (by rw[←hV,←hbr];exact heap_alloc_new _ _);have VN:Hid (V.heap[bn]?=some (.cells #[.int .u64 n] 23 (0,0))):=Lib.hid ((VB.out.block _ (lt_of_block HN.out)).trans HN.out);have VW:Hid (V.heap[bw]?=some (.cells #[.pointer (some ⟨b,0,none⟩)] 177 (0,0))):=Lib.hid ((VB.out.block _ (lt_of_block HW2.out)).trans HW2.out);have VV:Hid (V.heap[b]?=some (.cells #[v] 233 (0,0))):=Lib.hid ((VB.out.block _ hltb).trans HV.out);have HOWN:=Lib.hid (own_below HOWN0.out VB.out);have HQ:Hid (∀g,v.ownBlock=some g→base≤g∧g<V.heap.size):=Lib.hid (λ g hg=>HOWN.out.lt g hg);have n1:=own_not8 HOWN.out VN.out n8n;have n2:=own_not8 HOWN.out VW.out n8b;have n3:=own_not8 HOWN.out VR.out n8r;have n4:=own_not8 HOWN.out VV.out n8w;have c1:V.cell? ⟨bn,0,none⟩=some (.int .u64 n):=block_cell VN.out 0;have c2:V.cell? ⟨bw,0,none⟩=some (.pointer (some ⟨b,0,none⟩)):=block_cell VW.out 0;have c3:V.cell? ⟨br,1,none⟩=some (.int .u8 r.first):=block_cell VR.out 1;have c4:V.cell? ⟨b,0,none⟩=some v:=block_cell VV.out 0;have hbV:base≤V.heap.size:=Nat.le_trans hbase (Nat.le_of_lt (lt_of_block VV.out))
    rw[hbr]
    try rw[hV]
    clear hV hbr cn cw cb
    refine wp_region_tail 11 8 (v.ownBlock) (phis [λ u _=>u=(.pointer (some ⟨b,0,none⟩)),λ u _=>u=(.pointer (some ⟨b,0,none⟩)),λ u _=>u=(.pointer (some ⟨b,0,none⟩)),λ u _=>u=(.pointer (some ⟨b,0,none⟩)),λ u _=>u=(v),λ u _=>u=(.pointer (some ⟨br,1,none⟩)),λ u _=>u=(.int .u8 r.first),λ u w'=>∃b,u=.slice (some ⟨b,0,none⟩) 1 1∧some b≠v.ownBlock∧w'.heap[b]?=some (.cells ([.int .u8 r.first]).toArray 5 (0,0)),λ u w'=>w'.ownsRow (base) 5 1 u (s.size+1) (Lib.strCells s++[.int .u8 r.first]),λ u _=>u=(.pointer (some ⟨b,0,none⟩)),λ u _=>u=(.pointer (some ⟨b,0,none⟩))]) rfl (by kernel_rfl) (by kernel_rfl) (mono_of ⟨mono_eq,mono_eq,mono_eq,mono_eq,mono_eq,mono_eq,mono_eq,?m7,?m8,mono_eq,mono_eq,trivial⟩) (steps_of 11 ⟨?s0,?s1,?s2,?s3,?s4,?s5,?s6,?s7,?s8,?s9,?s10,trivial⟩) ?_
    case m7=>
     exact⟨λ u w1 w' h ⟨b,h1,hb,hb'⟩=>⟨b,h1,hb,ext_block h hb'⟩,λ _ u w1 w' h ⟨b,h1,hb,hb'⟩=>⟨b,h1,hb,extB_block h hb hb'⟩⟩
    case m8=>
     exact⟨λ u w1 w' h hu=>own_below hu h,λ hn=>absurd rfl hn⟩
    case s0=>
     refine step_val (v:=(.pointer (some ⟨b,0,none⟩))) (λ av wv hE hS hO hD=>?_) (λ _=>rfl)
     have f2:=QEf av 2 (.pointer (some ⟨bw,0,none⟩)) (hO.2.2 2 rfl);have c1:=extB_cell hE n1 c1;have c2:=extB_cell hE n2 c2;have c3:=extB_cell hE n3 c3;have c4:=extB_cell hE n4 c4
     refine⟨rfl,?_⟩
     simp[go_sem,f2,c1,c2,c3,c4]
    case s1=>
     refine step_val (v:=(.pointer (some ⟨b,0,none⟩))) (λ av wv hE hS hO hD=>?_) (λ _=>rfl)
     have f2:=QEf av 2 (.pointer (some ⟨bw,0,none⟩)) (hO.2.2 2 rfl);have c1:=extB_cell hE n1 c1;have c2:=extB_cell hE n2 c2;have c3:=extB_cell hE n3 c3;have c4:=extB_cell hE n4 c4
     refine⟨rfl,?_⟩
     simp[go_sem,f2,c1,c2,c3,c4]
    case s2=>
     refine step_val (v:=(.pointer (some ⟨b,0,none⟩))) (λ av wv hE hS hO hD=>?_) (λ _=>rfl)
     have f33:=QEf av 33 (.pointer (some ⟨b,0,none⟩)) (hD.1 rfl _ rfl)
     refine⟨rfl,?_⟩
     simp[go_sem,f33]
    case s3=>
     refine step_val (v:=(.pointer (some ⟨b,0,none⟩))) (λ av wv hE hS hO hD=>?_) (λ _=>rfl)
     have f34:=QEf av 34 (.pointer (some ⟨b,0,none⟩)) (hD.1 rfl _ rfl)
     refine⟨rfl,?_⟩
     simp[go_sem,f34]
    case s4=>
     refine step_val (v:=(v)) (λ av wv hE hS hO hD=>?_) (λ _=>rfl)
     have f35:=QEf av 35 (.pointer (some ⟨b,0,none⟩)) (hD.1 rfl _ rfl);have c1:=extB_cell hE n1 c1;have c2:=extB_cell hE n2 c2;have c3:=extB_cell hE n3 c3;have c4:=extB_cell hE n4 c4
     refine⟨rfl,?_⟩
     simp[go_sem,f35,c1,c2,c3,c4]
    case s5=>
     refine step_val (v:=(.pointer (some ⟨br,1,none⟩))) (λ av wv hE hS hO hD=>?_) (λ _=>rfl)
     have f3:=QEf av 3 (.pointer (some ⟨br,0,none⟩)) (hO.2.2 3 rfl)
     refine⟨rfl,?_⟩
     simp[go_sem,f3]
    case s6=>
     refine step_val (v:=(.int .u8 r.first)) (λ av wv hE hS hO hD=>?_) (λ _=>rfl)
     have f37:=QEf av 37 (.pointer (some ⟨br,1,none⟩)) (hD.1 rfl _ rfl);have c1:=extB_cell hE n1 c1;have c2:=extB_cell hE n2 c2;have c3:=extB_cell hE n3 c3;have c4:=extB_cell hE n4 c4
     refine⟨rfl,?_⟩
     simp[go_sem,f37,c1,c2,c3,c4]
    case s7=>
     refine step_wp (λ av wv hE hS hO hD=>?_)
     have f38:=QEf av 38 (.int .u8 r.first) (hD.1 rfl _ rfl)
     refine⟨rfl,?_⟩
     refine wp_of_run (v:=.slice (some ⟨wv.heap.size,0,none⟩) 1 1) (w':=wv.alloc (.cells ([.int .u8 r.first]).toArray 5)) (by first | (simp[go_sem,f38];done) | (simp[go_sem,f38];rfl)) ⟨_,rfl,es_of_ext (balloc (Ext_refl _) _),wv.heap.size,rfl,?_,heap_alloc_new _ _⟩
     exact λ e=>absurd (HQ.out _ e.symm).2 (by have:=hE.size;simp at this;omega)
    case s8=>
     refine step_wp (λ av wv hE hS hO hD=>?_)
     have d36:av.eval (.tmp 36)=(v):=hD.1 rfl _ rfl;have f36:=(ev_form av 36).symm.trans d36;have d39:(λ u w'=>∃b,u=.slice (some ⟨b,0,none⟩) 1 1∧some b≠v.ownBlock∧w'.heap[b]?=some (.cells ([.int .u8 r.first]).toArray 5 (0,0))) (av.eval (.tmp 39)) wv:=hD.2.1 rfl _ rfl
     refine⟨rfl,?_⟩
     obtain⟨bS,hS1,hbS,hcS⟩:=d39
     have hown1:wv.ownsRow (base) 5 1 (v) (s.size) (Lib.strCells s):=own_below (w:=World.drew _) (HOWN.out) (hS rfl)
     refine wp_append_lies wv _ _ _ rfl (base) 5 i0 (.int .u8 0) 1 1 Tryz.underlying41 hi hz0 hz1 hz2 rfl (by decide) (v) (s.size) _ d36 hown1 ⟨bS,0,none⟩ 1 1 ([.int .u8 r.first]) (by exact hS1) rfl (World.news_of_block hcS) (one_u8 _) (by decide) (by unfold maxLen;omega) (by omega) (by have:=hE.size;simp at this;omega) _ rfl ?_
     intro g cap1 w2 hown2 hgrow hat hlt2
     exact⟨_,rfl,es_sp hgrow,hown2⟩
    case s9=>
     refine step_val (v:=(.pointer (some ⟨b,0,none⟩))) (λ av wv hE hS hO hD=>?_) (λ _=>rfl)
     have f32:=QEf av 32 (.pointer (some ⟨b,0,none⟩)) (hD.1 rfl _ rfl)
     refine⟨rfl,?_⟩
     simp[go_sem,f32]
    case s10=>
     refine step_val (v:=(.pointer (some ⟨b,0,none⟩))) (λ av wv hE hS hO hD=>?_) (λ _=>rfl)
     have f41:=QEf av 41 (.pointer (some ⟨b,0,none⟩)) (hD.1 rfl _ rfl)
     refine⟨rfl,?_⟩
     simp[go_sem,f41]
    intro a' w' hE hO hall
    have hA:=act_of_outer (ds:=[32,33,34,35,36,37,38,39,40,41,42]) rfl hO (by kernel_rfl);have e32:a'.eval (.tmp 32)=(.pointer (some ⟨b,0,none⟩)):=hall.1 _ rfl;have e33:a'.eval (.tmp 33)=(.pointer (some ⟨b,0,none⟩)):=hall.2.1 _ rfl;have e34:a'.eval (.tmp 34)=(.pointer (some ⟨b,0,none⟩)):=hall.2.2.1 _ rfl;have e35:a'.eval (.tmp 35)=(.pointer (some ⟨b,0,none⟩)):=hall.2.2.2.1 _ rfl;have e36:a'.eval (.tmp 36)=(v):=hall.2.2.2.2.1 _ rfl;have e37:a'.eval (.tmp 37)=(.pointer (some ⟨br,1,none⟩)):=hall.2.2.2.2.2.1 _ rfl;have e38:a'.eval (.tmp 38)=(.int .u8 r.first):=hall.2.2.2.2.2.2.1 _ rfl;have e39:(λ u w'=>∃b,u=.slice (some ⟨b,0,none⟩) 1 1∧some b≠v.ownBlock∧w'.heap[b]?=some (.cells ([.int .u8 r.first]).toArray 5 (0,0))) (a'.eval (.tmp 39)) w':=hall.2.2.2.2.2.2.2.1 _ rfl;have e40:(λ u w'=>w'.ownsRow (base) 5 1 u (s.size+1) (Lib.strCells s++[.int .u8 r.first])) (a'.eval (.tmp 40)) w':=hall.2.2.2.2.2.2.2.2.1 _ rfl;have e41:a'.eval (.tmp 41)=(.pointer (some ⟨b,0,none⟩)):=hall.2.2.2.2.2.2.2.2.2.1 _ rfl;have e42:a'.eval (.tmp 42)=(.pointer (some ⟨b,0,none⟩)):=hall.2.2.2.2.2.2.2.2.2.2.1 _ rfl
    obtain⟨v39,hv39⟩:∃v,a'.eval (.tmp 39)=v:=⟨_,rfl⟩
    rw[hv39]at e39
    obtain⟨v40,hv40⟩:∃v,a'.eval (.tmp 40)=v:=⟨_,rfl⟩
    rw[hv40]at e40
    simp only[List.foldl_cons,List.foldl_nil,Act.put,List.setIfInBounds_toArray,List.set_cons_succ,List.set_cons_zero,e32,e33,e34,e35,e36,e37,e38,hv39,hv40,e41,e42]at hA
    clear hO hall e32 e33 e34 e35 e36 e37 e38 hv39 hv40 e41 e42
    subst hA
    obtain⟨ga,gc,rfl⟩:=own_slice e40
    have hst:=wr_step (s':=s++baL [toB r.first]) hbase VV.out HOWN.out hE (by rw[baL_one];exact e40) (by rw[strCells_app,strCells_one f0 f1]);have HST:=Lib.hid hst;have hc4:=hst.1;have hf4:=hst.2.1;have HBR:Hid (w'.cell? ⟨br,2,none⟩=some (.int .i64 r.size)):=Lib.hid (extB_cell hE n3 (block_cell VR.out 2));clear hst hE e40 c1 c2 c3 c4;have hne:br≠b:=λ e=>by have h1:=VR.out;rw[e,VV.out]at h1;cases h1
    have c5:(w'.setCell ⟨b,0,none⟩ (.slice (some ⟨ga,0,none⟩) (s.size+1) gc)).cell? ⟨br,2,none⟩=some (.int .i64 r.size):=by
     have h:=(HST.out.2.2.2).keep br _ VR.out hne n8r
     exact block_cell h 2
    obtain⟨k,hk⟩:=Int.eq_ofNat_of_zero_le s0
    have HKK:=Lib.hid hk;have k8:k≤8:=by omega
    rw[hk]at c5
    have hw1:IntKind.i64.wrap ((k:Int) - 1)=(k:Int) - 1:=IntWalk.i64_in _ (by omega);clear hk HBR
    go_wp2
    obtain⟨V2,hV2⟩:∃V2,w'.setCell ⟨b,0,none⟩ (.slice (some ⟨ga,0,none⟩) (s.size+1) gc)=V2:=⟨_,rfl⟩
    have HWR2:Hid (WrB V2 b base (s++baL (toB r.first :: ((hiL n k).take (k - k)).map toB))):=Lib.hid (by rw[←hV2,Nat.sub_self];exact HST.out.2.2.1);have HWK2:Hid (WK base b V V2):=Lib.hid (by rw[←hV2];exact HST.out.2.2.2)
    try rw[hV2]
    clear hV2 HST hc4 hf4 c5 hw1 HWR;have nbn:bn≠b:=λ e=>by have h1:=VN.out;rw[e,VV.out]at h1;cases h1
    have nbw:bw≠b:=λ e=>by have h1:=VW.out;rw[e,VV.out]at h1;cases h1
    have hbVS:base≤V.heap.size:=hbV;clear n1 n2 n3 n4 hbV hltb HQ
    go_loopg [5] k (λ g i wr=>g≤k∧i=.int .i64 ((g:Int) - 1)∧Hid (WrB wr b base (s++baL (toB r.first :: ((hiL n k).take (k - g)).map toB)))∧Hid (WK base b V wr))
    case atStart=>exact⟨Nat.le_refl _,rfl,HWR2.out,HWK2.out⟩
    case round=>
     clear HWR2 HWK2
     obtain⟨hgk,rfl,HWR,HWK⟩:=hrel
     obtain⟨G,hG⟩:∃G,G=gk:=⟨_,rfl⟩
     subst hG
     cases G with
     | zero=>
      have e2:((0:Nat):Int) - 1=-1:=rfl
      rw[e2]
      clear e2
      go_wp2
      go_ret
      refine⟨ret_bool HX.out.symm,?_,(WK.of_below VB.out HBS.out).trans HWK.out⟩
      rw[HIF.out]
      have e4:rowB r n=toB r.first :: ((hiL n k).take (k - 0)).map toB:=by
       unfold rowB
       rw[if_neg HSZ.out,HKK.out,Nat.sub_zero,List.take_of_length_le (by rw[hiL_len];exact Nat.le_refl _)];rfl
      rw[e4];exact HWR.out
     | succ i=>
      have e2:((i+1:Nat):Int) - 1=(i:Int):=by omega
      rw[e2]
      obtain⟨t,ht⟩:∃t,s++baL (toB r.first :: ((hiL n k).take (k - (i+1))).map toB)=t:=⟨_,rfl⟩
      have hts:t.size≤70000000000009:=by
       rw[←ht,ByteArray.size_append,baL_size,List.length_cons,List.length_map,List.length_take,hiL_len];omega
      obtain⟨x,hx⟩:∃x,n / 2 ^ (8 * i) % 256=x:=⟨_,rfl⟩
      have hx0:0≤x∧x≤255:=by rw[←hx];omega
      have HT:Hid (s++baL (toB r.first :: ((hiL n k).take (k - i)).map toB)=t++baL [toB x]):=Lib.hid (by
       rw[←ht,hi_next n k i (by omega),show(256:Int) ^ i=2 ^ (8 * i)by rw[Int.pow_mul];rfl,hx,List.map_append,←List.cons_append,baL_app,ByteArray.append_assoc];rfl)
      rw[ht]at HWR
      have y0:IntKind.u8.wrap (n / 2 ^ (8 * i))=x:=by rw[IntKind.wrap_u8];exact hx
      have y1:IntKind.i64.wrap (8 * (i:Int))=8 * (i:Int):=IntWalk.i64_in _ (by omega);have y2:0≤8 * (i:Int):=by omega
      have y3:(8 * (i:Int)).toNat=8 * i:=by omega
      clear ht e2 hx
      obtain⟨-,v,hv,hown⟩:=HWR.out
      have VV2:=Lib.hid hv;have HOWN:=Lib.hid hown;have VN2:=Lib.hid (HWK.out.keep _ _ VN.out nbn n8n);have VW2:=Lib.hid (HWK.out.keep _ _ VW.out nbw n8b);have n8w:Not8 (.cells #[v] 233 (0,0)):=not8_cells (by decide);have HQ:Hid (∀g,v.ownBlock=some g→base≤g∧g<wr.heap.size):=Lib.hid (λ g hg=>HOWN.out.lt g hg);have n1:=own_not8 HOWN.out VN2.out n8n;have n2:=own_not8 HOWN.out VW2.out n8b;have n4:=own_not8 HOWN.out VV2.out n8w;have c1:wr.cell? ⟨bn,0,none⟩=some (.int .u64 n):=block_cell VN2.out 0;have c2:wr.cell? ⟨bw,0,none⟩=some (.pointer (some ⟨b,0,none⟩)):=block_cell VW2.out 0;have c4:wr.cell? ⟨b,0,none⟩=some v:=block_cell VV2.out 0;have hbV:base≤wr.heap.size:=Nat.le_trans hbase (Nat.le_of_lt (lt_of_block VV2.out));clear hv hown
      go_upto_region 10 with fail
      refine wp_region_tail 14 11 (v.ownBlock) (phis [λ u _=>u=(.pointer (some ⟨b,0,none⟩)),λ u _=>u=(.pointer (some ⟨b,0,none⟩)),λ u _=>u=(.pointer (some ⟨b,0,none⟩)),λ u _=>u=(.pointer (some ⟨b,0,none⟩)),λ u _=>u=(v),λ u _=>u=(.int .u64 n),λ u _=>u=(.int .i64 i),λ u _=>u=(.int .i64 (8 * (i:Int))),λ u _=>u=(.int .u64 (n / 2 ^ (8 * i))),λ u _=>u=(.int .u8 x),λ u w'=>∃b,u=.slice (some ⟨b,0,none⟩) 1 1∧some b≠v.ownBlock∧w'.heap[b]?=some (.cells ([.int .u8 x]).toArray 5 (0,0)),λ u w'=>w'.ownsRow (base) 5 1 u (t.size+1) (Lib.strCells t++[.int .u8 x]),λ u _=>u=(.pointer (some ⟨b,0,none⟩)),λ u _=>u=(.pointer (some ⟨b,0,none⟩))]) rfl (by kernel_rfl) (by kernel_rfl) (mono_of ⟨mono_eq,mono_eq,mono_eq,mono_eq,mono_eq,mono_eq,mono_eq,mono_eq,mono_eq,mono_eq,?m10,?m11,mono_eq,mono_eq,trivial⟩) (steps_of 14 ⟨?s0,?s1,?s2,?s3,?s4,?s5,?s6,?s7,?s8,?s9,?s10,?s11,?s12,?s13,trivial⟩) ?_
      case m10=>
       exact⟨λ u w1 w' h ⟨b,h1,hb,hb'⟩=>⟨b,h1,hb,ext_block h hb'⟩,λ _ u w1 w' h ⟨b,h1,hb,hb'⟩=>⟨b,h1,hb,extB_block h hb hb'⟩⟩
      case m11=>
       exact⟨λ u w1 w' h hu=>own_below hu h,λ hn=>absurd rfl hn⟩
      case s0=>
       refine step_val (v:=(.pointer (some ⟨b,0,none⟩))) (λ av wv hE hS hO hD=>?_) (λ _=>rfl)
       have f2:=QEf av 2 (.pointer (some ⟨bw,0,none⟩)) (hO.2.2 2 rfl);have c1:=extB_cell hE n1 c1;have c2:=extB_cell hE n2 c2;have c4:=extB_cell hE n4 c4
       refine⟨rfl,?_⟩
       simp[go_sem,f2,c1,c2,c4,y0,y1,y2,y3]
      case s1=>
       refine step_val (v:=(.pointer (some ⟨b,0,none⟩))) (λ av wv hE hS hO hD=>?_) (λ _=>rfl)
       have f2:=QEf av 2 (.pointer (some ⟨bw,0,none⟩)) (hO.2.2 2 rfl);have c1:=extB_cell hE n1 c1;have c2:=extB_cell hE n2 c2;have c4:=extB_cell hE n4 c4
       refine⟨rfl,?_⟩
       simp[go_sem,f2,c1,c2,c4,y0,y1,y2,y3]
      case s2=>
       refine step_val (v:=(.pointer (some ⟨b,0,none⟩))) (λ av wv hE hS hO hD=>?_) (λ _=>rfl)
       have f51:=QEf av 51 (.pointer (some ⟨b,0,none⟩)) (hD.1 rfl _ rfl)
       refine⟨rfl,?_⟩
       simp[go_sem,f51,y0,y1,y2,y3]
      case s3=>
       refine step_val (v:=(.pointer (some ⟨b,0,none⟩))) (λ av wv hE hS hO hD=>?_) (λ _=>rfl)
       have f52:=QEf av 52 (.pointer (some ⟨b,0,none⟩)) (hD.1 rfl _ rfl)
       refine⟨rfl,?_⟩
       simp[go_sem,f52,y0,y1,y2,y3]
      case s4=>
       refine step_val (v:=(v)) (λ av wv hE hS hO hD=>?_) (λ _=>rfl)
       have f53:=QEf av 53 (.pointer (some ⟨b,0,none⟩)) (hD.1 rfl _ rfl);have c1:=extB_cell hE n1 c1;have c2:=extB_cell hE n2 c2;have c4:=extB_cell hE n4 c4
       refine⟨rfl,?_⟩
       simp[go_sem,f53,c1,c2,c4,y0,y1,y2,y3]
      case s5=>
       refine step_val (v:=(.int .u64 n)) (λ av wv hE hS hO hD=>?_) (λ _=>rfl)
       have f1:=QEf av 1 (.pointer (some ⟨bn,0,none⟩)) (hO.2.2 1 rfl);have c1:=extB_cell hE n1 c1;have c2:=extB_cell hE n2 c2;have c4:=extB_cell hE n4 c4
       refine⟨rfl,?_⟩
       simp[go_sem,f1,c1,c2,c4,y0,y1,y2,y3]
      case s6=>
       refine step_val (v:=(.int .i64 i)) (λ av wv hE hS hO hD=>?_) (λ _=>rfl)
       have f5:=QEf av 5 (.int .i64 i) (hO.2.2 5 rfl)
       refine⟨rfl,?_⟩
       simp[go_sem,f5,y0,y1,y2,y3]
      case s7=>
       refine step_val (v:=(.int .i64 (8 * (i:Int)))) (λ av wv hE hS hO hD=>?_) (λ _=>rfl)
       have f56:=QEf av 56 (.int .i64 i) (hD.1 rfl _ rfl)
       refine⟨rfl,?_⟩
       simp[go_sem,f56,y0,y1,y2,y3]
      case s8=>
       refine step_val (v:=(.int .u64 (n / 2 ^ (8 * i)))) (λ av wv hE hS hO hD=>?_) (λ _=>rfl)
       have f55:=QEf av 55 (.int .u64 n) (hD.1 rfl _ rfl);have f57:=QEf av 57 (.int .i64 (8 * (i:Int))) (hD.2.1 rfl _ rfl)
       refine⟨rfl,?_⟩
       simp[go_sem,f55,f57,y0,y1,y2,y3]
      case s9=>
       refine step_val (v:=(.int .u8 x)) (λ av wv hE hS hO hD=>?_) (λ _=>rfl)
       have f58:=QEf av 58 (.int .u64 (n / 2 ^ (8 * i))) (hD.1 rfl _ rfl)
       refine⟨rfl,?_⟩
       simp[go_sem,f58,y0,y1,y2,y3]
      case s10=>
       refine step_wp (λ av wv hE hS hO hD=>?_)
       have f59:=QEf av 59 (.int .u8 x) (hD.1 rfl _ rfl)
       refine⟨rfl,?_⟩
       refine wp_of_run (v:=.slice (some ⟨wv.heap.size,0,none⟩) 1 1) (w':=wv.alloc (.cells ([.int .u8 x]).toArray 5)) (by first | (simp[go_sem,f59,y0,y1,y2,y3];done) | (simp[go_sem,f59,y0,y1,y2,y3];rfl)) ⟨_,rfl,es_of_ext (balloc (Ext_refl _) _),wv.heap.size,rfl,?_,heap_alloc_new _ _⟩
       exact λ e=>absurd (HQ.out _ e.symm).2 (by have:=hE.size;simp at this;omega)
      case s11=>
       refine step_wp (λ av wv hE hS hO hD=>?_)
       have d54:av.eval (.tmp 54)=(v):=hD.1 rfl _ rfl;have f54:=(ev_form av 54).symm.trans d54;have d60:(λ u w'=>∃b,u=.slice (some ⟨b,0,none⟩) 1 1∧some b≠v.ownBlock∧w'.heap[b]?=some (.cells ([.int .u8 x]).toArray 5 (0,0))) (av.eval (.tmp 60)) wv:=hD.2.1 rfl _ rfl
       refine⟨rfl,?_⟩
       obtain⟨bS,hS1,hbS,hcS⟩:=d60
       have hown1:wv.ownsRow (base) 5 1 (v) (t.size) (Lib.strCells t):=own_below (w:=World.drew _) (HOWN.out) (hS rfl)
       refine wp_append_lies wv _ _ _ rfl (base) 5 i0 (.int .u8 0) 1 1 Tryz.underlying41 hi hz0 hz1 hz2 rfl (by decide) (v) (t.size) _ d54 hown1 ⟨bS,0,none⟩ 1 1 ([.int .u8 x]) (by exact hS1) rfl (World.news_of_block hcS) (one_u8 _) (by decide) (by unfold maxLen;omega) (by omega) (by have:=hE.size;simp at this;omega) _ rfl ?_
       intro g cap1 w2 hown2 hgrow hat hlt2
       exact⟨_,rfl,es_sp hgrow,hown2⟩
      case s12=>
       refine step_val (v:=(.pointer (some ⟨b,0,none⟩))) (λ av wv hE hS hO hD=>?_) (λ _=>rfl)
       have f50:=QEf av 50 (.pointer (some ⟨b,0,none⟩)) (hD.1 rfl _ rfl)
       refine⟨rfl,?_⟩
       simp[go_sem,f50,y0,y1,y2,y3]
      case s13=>
       refine step_val (v:=(.pointer (some ⟨b,0,none⟩))) (λ av wv hE hS hO hD=>?_) (λ _=>rfl)
       have f62:=QEf av 62 (.pointer (some ⟨b,0,none⟩)) (hD.1 rfl _ rfl)
       refine⟨rfl,?_⟩
       simp[go_sem,f62,y0,y1,y2,y3]
      intro a' w' hE hO hall
      have hA:=act_of_outer (ds:=[50,51,52,53,54,55,56,57,58,59,60,61,62,63]) rfl hO (by kernel_rfl);have e50:a'.eval (.tmp 50)=(.pointer (some ⟨b,0,none⟩)):=hall.1 _ rfl;have e51:a'.eval (.tmp 51)=(.pointer (some ⟨b,0,none⟩)):=hall.2.1 _ rfl;have e52:a'.eval (.tmp 52)=(.pointer (some ⟨b,0,none⟩)):=hall.2.2.1 _ rfl;have e53:a'.eval (.tmp 53)=(.pointer (some ⟨b,0,none⟩)):=hall.2.2.2.1 _ rfl;have e54:a'.eval (.tmp 54)=(v):=hall.2.2.2.2.1 _ rfl;have e55:a'.eval (.tmp 55)=(.int .u64 n):=hall.2.2.2.2.2.1 _ rfl;have e56:a'.eval (.tmp 56)=(.int .i64 i):=hall.2.2.2.2.2.2.1 _ rfl;have e57:a'.eval (.tmp 57)=(.int .i64 (8 * (i:Int))):=hall.2.2.2.2.2.2.2.1 _ rfl;have e58:a'.eval (.tmp 58)=(.int .u64 (n / 2 ^ (8 * i))):=hall.2.2.2.2.2.2.2.2.1 _ rfl;have e59:a'.eval (.tmp 59)=(.int .u8 x):=hall.2.2.2.2.2.2.2.2.2.1 _ rfl;have e60:(λ u w'=>∃b,u=.slice (some ⟨b,0,none⟩) 1 1∧some b≠v.ownBlock∧w'.heap[b]?=some (.cells ([.int .u8 x]).toArray 5 (0,0))) (a'.eval (.tmp 60)) w':=hall.2.2.2.2.2.2.2.2.2.2.1 _ rfl;have e61:(λ u w'=>w'.ownsRow (base) 5 1 u (t.size+1) (Lib.strCells t++[.int .u8 x])) (a'.eval (.tmp 61)) w':=hall.2.2.2.2.2.2.2.2.2.2.2.1 _ rfl;have e62:a'.eval (.tmp 62)=(.pointer (some ⟨b,0,none⟩)):=hall.2.2.2.2.2.2.2.2.2.2.2.2.1 _ rfl;have e63:a'.eval (.tmp 63)=(.pointer (some ⟨b,0,none⟩)):=hall.2.2.2.2.2.2.2.2.2.2.2.2.2.1 _ rfl
      obtain⟨v60,hv60⟩:∃v,a'.eval (.tmp 60)=v:=⟨_,rfl⟩
      rw[hv60]at e60
      obtain⟨v61,hv61⟩:∃v,a'.eval (.tmp 61)=v:=⟨_,rfl⟩
      rw[hv61]at e61
      simp only[List.foldl_cons,List.foldl_nil,Act.put,List.setIfInBounds_toArray,List.set_cons_succ,List.set_cons_zero,e50,e51,e52,e53,e54,e55,e56,e57,e58,e59,hv60,hv61,e62,e63]at hA
      clear hO hall e50 e51 e52 e53 e54 e55 e56 e57 e58 e59 hv60 hv61 e62 e63
      subst hA
      obtain⟨ga,gc,rfl⟩:=own_slice e61
      have hst:=wr_step (s':=t++baL [toB x]) hbase VV2.out HOWN.out hE (by rw[baL_one];exact e61) (by rw[strCells_app,strCells_one hx0.1 hx0.2]);have HST:=Lib.hid hst;have hc4:=hst.1;have hf4:=hst.2.1;clear hst hE e61 c1 c2 c4 n1 n2 n4
      go_wp2
      go_roundg i
      case rel=>exact⟨by omega,by go_num,by rw[HT.out];exact HST.out.2.2.1,HWK.out.trans HST.out.2.2.2⟩
      case measure=>omega
  ·skip
   go_enter Tryz.func291,Tryz.ntmps291
   by_cases hsz:r.size=0
   ·have e0:(r.size == 0)=true:=by simpa using hsz
    have HSZ:=Lib.hid hsz;clear hsz
    go_upto_region 4 with fail
    obtain⟨br,hbr⟩:∃br,w.heap.size=br:=⟨_,rfl⟩
    obtain⟨V,hV⟩:∃V,w.alloc (.cells #[.int .u64 r.below,.int .u8 r.first,.int .i64 r.size] 336)=V:=⟨_,rfl⟩
    have VB:Hid (Below w.heap.size w V):=Lib.hid (by rw[←hV];exact balloc (Below.refl _ _) _);have VR:Hid (V.heap[br]?=some (.cells #[.int .u64 r.below,.int .u8 r.first,.int .i64 r.size] 336 (0,0))):=Lib.hid (by rw[←hV,←hbr];exact heap_alloc_new _ _);have VN:Hid (V.heap[bn]?=some (.cells #[.int .u64 n] 23 (0,0))):=Lib.hid ((VB.out.block _ (lt_of_block HN.out)).trans HN.out);have VW:Hid (V.heap[bw]?=some (.cells #[.pointer (some ⟨b,0,none⟩)] 177 (0,0))):=Lib.hid ((VB.out.block _ (lt_of_block HW2.out)).trans HW2.out);have VV:Hid (V.heap[b]?=some (.cells #[v] 233 (0,0))):=Lib.hid ((VB.out.block _ hltb).trans HV.out);have HOWN:=Lib.hid (own_below HOWN0.out VB.out);have HQ:Hid (∀g,v.ownBlock=some g→base≤g∧g<V.heap.size):=Lib.hid (λ g hg=>HOWN.out.lt g hg);have n1:=own_not8 HOWN.out VN.out n8n;have n2:=own_not8 HOWN.out VW.out n8b;have n3:=own_not8 HOWN.out VR.out n8r;have n4:=own_not8 HOWN.out VV.out n8w;have c1:V.cell? ⟨bn,0,none⟩=some (.int .u64 n):=block_cell VN.out 0;have c2:V.cell? ⟨bw,0,none⟩=some (.pointer (some ⟨b,0,none⟩)):=block_cell VW.out 0;have c3:V.cell? ⟨br,1,none⟩=some (.int .u8 r.first):=block_cell VR.out 1;have c4:V.cell? ⟨b,0,none⟩=some v:=block_cell VV.out 0;have hbV:base≤V.heap.size:=Nat.le_trans hbase (Nat.le_of_lt (lt_of_block VV.out))
    obtain⟨y,hy⟩:∃y,r.first+n=y:=⟨_,rfl⟩
    have hy1:y≤255:=by rw[←hy];exact HFIT.out HSZ.out
    have y0:IntKind.u8.wrap n=n:=IntWalk.u8_in _ (by omega);have y1:IntKind.u8.wrap (r.first+n)=y:=by rw[hy];exact IntWalk.u8_in _ (by omega)
    have hy0:0≤y:=by omega
    have HY:=Lib.hid hy
    rw[hbr]
    try rw[hV]
    clear hV hbr hy cn cw cb
    refine wp_region_tail 14 11 (v.ownBlock) (phis [λ u _=>u=(.pointer (some ⟨b,0,none⟩)),λ u _=>u=(.pointer (some ⟨b,0,none⟩)),λ u _=>u=(.pointer (some ⟨b,0,none⟩)),λ u _=>u=(.pointer (some ⟨b,0,none⟩)),λ u _=>u=(v),λ u _=>u=(.pointer (some ⟨br,1,none⟩)),λ u _=>u=(.int .u8 r.first),λ u _=>u=(.int .u64 n),λ u _=>u=(.int .u8 n),λ u _=>u=(.int .u8 y),λ u w'=>∃b,u=.slice (some ⟨b,0,none⟩) 1 1∧some b≠v.ownBlock∧w'.heap[b]?=some (.cells ([.int .u8 y]).toArray 5 (0,0)),λ u w'=>w'.ownsRow (base) 5 1 u (s.size+1) (Lib.strCells s++[.int .u8 y]),λ u _=>u=(.pointer (some ⟨b,0,none⟩)),λ u _=>u=(.pointer (some ⟨b,0,none⟩))]) rfl (by kernel_rfl) (by kernel_rfl) (mono_of ⟨mono_eq,mono_eq,mono_eq,mono_eq,mono_eq,mono_eq,mono_eq,mono_eq,mono_eq,mono_eq,?m10,?m11,mono_eq,mono_eq,trivial⟩) (steps_of 14 ⟨?s0,?s1,?s2,?s3,?s4,?s5,?s6,?s7,?s8,?s9,?s10,?s11,?s12,?s13,trivial⟩) ?_
    case m10=>
     exact⟨λ u w1 w' h ⟨b,h1,hb,hb'⟩=>⟨b,h1,hb,ext_block h hb'⟩,λ _ u w1 w' h ⟨b,h1,hb,hb'⟩=>⟨b,h1,hb,extB_block h hb hb'⟩⟩
    case m11=>
     exact⟨λ u w1 w' h hu=>own_below hu h,λ hn=>absurd rfl hn⟩
    case s0=>
     refine step_val (v:=(.pointer (some ⟨b,0,none⟩))) (λ av wv hE hS hO hD=>?_) (λ _=>rfl)
     have f2:=QEf av 2 (.pointer (some ⟨bw,0,none⟩)) (hO.2.2 2 rfl);have c1:=extB_cell hE n1 c1;have c2:=extB_cell hE n2 c2;have c3:=extB_cell hE n3 c3;have c4:=extB_cell hE n4 c4
     refine⟨rfl,?_⟩
     simp[go_sem,f2,c1,c2,c3,c4,y0,y1]
    case s1=>
     refine step_val (v:=(.pointer (some ⟨b,0,none⟩))) (λ av wv hE hS hO hD=>?_) (λ _=>rfl)
     have f2:=QEf av 2 (.pointer (some ⟨bw,0,none⟩)) (hO.2.2 2 rfl);have c1:=extB_cell hE n1 c1;have c2:=extB_cell hE n2 c2;have c3:=extB_cell hE n3 c3;have c4:=extB_cell hE n4 c4
     refine⟨rfl,?_⟩
     simp[go_sem,f2,c1,c2,c3,c4,y0,y1]
    case s2=>
     refine step_val (v:=(.pointer (some ⟨b,0,none⟩))) (λ av wv hE hS hO hD=>?_) (λ _=>rfl)
     have f19:=QEf av 19 (.pointer (some ⟨b,0,none⟩)) (hD.1 rfl _ rfl)
     refine⟨rfl,?_⟩
     simp[go_sem,f19,y0,y1]
    case s3=>
     refine step_val (v:=(.pointer (some ⟨b,0,none⟩))) (λ av wv hE hS hO hD=>?_) (λ _=>rfl)
     have f20:=QEf av 20 (.pointer (some ⟨b,0,none⟩)) (hD.1 rfl _ rfl)
     refine⟨rfl,?_⟩
     simp[go_sem,f20,y0,y1]
    case s4=>
     refine step_val (v:=(v)) (λ av wv hE hS hO hD=>?_) (λ _=>rfl)
     have f21:=QEf av 21 (.pointer (some ⟨b,0,none⟩)) (hD.1 rfl _ rfl);have c1:=extB_cell hE n1 c1;have c2:=extB_cell hE n2 c2;have c3:=extB_cell hE n3 c3;have c4:=extB_cell hE n4 c4
     refine⟨rfl,?_⟩
     simp[go_sem,f21,c1,c2,c3,c4,y0,y1]
    case s5=>
     refine step_val (v:=(.pointer (some ⟨br,1,none⟩))) (λ av wv hE hS hO hD=>?_) (λ _=>rfl)
     have f3:=QEf av 3 (.pointer (some ⟨br,0,none⟩)) (hO.2.2 3 rfl)
     refine⟨rfl,?_⟩
     simp[go_sem,f3,y0,y1]
    case s6=>
     refine step_val (v:=(.int .u8 r.first)) (λ av wv hE hS hO hD=>?_) (λ _=>rfl)
     have f23:=QEf av 23 (.pointer (some ⟨br,1,none⟩)) (hD.1 rfl _ rfl);have c1:=extB_cell hE n1 c1;have c2:=extB_cell hE n2 c2;have c3:=extB_cell hE n3 c3;have c4:=extB_cell hE n4 c4
     refine⟨rfl,?_⟩
     simp[go_sem,f23,c1,c2,c3,c4,y0,y1]
    case s7=>
     refine step_val (v:=(.int .u64 n)) (λ av wv hE hS hO hD=>?_) (λ _=>rfl)
     have f1:=QEf av 1 (.pointer (some ⟨bn,0,none⟩)) (hO.2.2 1 rfl);have c1:=extB_cell hE n1 c1;have c2:=extB_cell hE n2 c2;have c3:=extB_cell hE n3 c3;have c4:=extB_cell hE n4 c4
     refine⟨rfl,?_⟩
     simp[go_sem,f1,c1,c2,c3,c4,y0,y1]
    case s8=>
     refine step_val (v:=(.int .u8 n)) (λ av wv hE hS hO hD=>?_) (λ _=>rfl)
     have f25:=QEf av 25 (.int .u64 n) (hD.1 rfl _ rfl)
     refine⟨rfl,?_⟩
     simp[go_sem,f25,y0,y1]
    case s9=>
     refine step_val (v:=(.int .u8 y)) (λ av wv hE hS hO hD=>?_) (λ _=>rfl)
     have f24:=QEf av 24 (.int .u8 r.first) (hD.1 rfl _ rfl);have f26:=QEf av 26 (.int .u8 n) (hD.2.1 rfl _ rfl)
     refine⟨rfl,?_⟩
     simp[go_sem,f24,f26,y0,y1]
    case s10=>
     refine step_wp (λ av wv hE hS hO hD=>?_)
     have f27:=QEf av 27 (.int .u8 y) (hD.1 rfl _ rfl)
     refine⟨rfl,?_⟩
     refine wp_of_run (v:=.slice (some ⟨wv.heap.size,0,none⟩) 1 1) (w':=wv.alloc (.cells ([.int .u8 y]).toArray 5)) (by first | (simp[go_sem,f27,y0,y1];done) | (simp[go_sem,f27,y0,y1];rfl)) ⟨_,rfl,es_of_ext (balloc (Ext_refl _) _),wv.heap.size,rfl,?_,heap_alloc_new _ _⟩
     exact λ e=>absurd (HQ.out _ e.symm).2 (by have:=hE.size;simp at this;omega)
    case s11=>
     refine step_wp (λ av wv hE hS hO hD=>?_)
     have d22:av.eval (.tmp 22)=(v):=hD.1 rfl _ rfl;have f22:=(ev_form av 22).symm.trans d22;have d28:(λ u w'=>∃b,u=.slice (some ⟨b,0,none⟩) 1 1∧some b≠v.ownBlock∧w'.heap[b]?=some (.cells ([.int .u8 y]).toArray 5 (0,0))) (av.eval (.tmp 28)) wv:=hD.2.1 rfl _ rfl
     refine⟨rfl,?_⟩
     obtain⟨bS,hS1,hbS,hcS⟩:=d28
     have hown1:wv.ownsRow (base) 5 1 (v) (s.size) (Lib.strCells s):=own_below (w:=World.drew _) (HOWN.out) (hS rfl)
     refine wp_append_lies wv _ _ _ rfl (base) 5 i0 (.int .u8 0) 1 1 Tryz.underlying41 hi hz0 hz1 hz2 rfl (by decide) (v) (s.size) _ d22 hown1 ⟨bS,0,none⟩ 1 1 ([.int .u8 y]) (by exact hS1) rfl (World.news_of_block hcS) (one_u8 _) (by decide) (by unfold maxLen;omega) (by omega) (by have:=hE.size;simp at this;omega) _ rfl ?_
     intro g cap1 w2 hown2 hgrow hat hlt2
     exact⟨_,rfl,es_sp hgrow,hown2⟩
    case s12=>
     refine step_val (v:=(.pointer (some ⟨b,0,none⟩))) (λ av wv hE hS hO hD=>?_) (λ _=>rfl)
     have f18:=QEf av 18 (.pointer (some ⟨b,0,none⟩)) (hD.1 rfl _ rfl)
     refine⟨rfl,?_⟩
     simp[go_sem,f18,y0,y1]
    case s13=>
     refine step_val (v:=(.pointer (some ⟨b,0,none⟩))) (λ av wv hE hS hO hD=>?_) (λ _=>rfl)
     have f30:=QEf av 30 (.pointer (some ⟨b,0,none⟩)) (hD.1 rfl _ rfl)
     refine⟨rfl,?_⟩
     simp[go_sem,f30,y0,y1]
    intro a' w' hE hO hall
    have hA:=act_of_outer (ds:=[18,19,20,21,22,23,24,25,26,27,28,29,30,31]) rfl hO (by kernel_rfl);have e18:a'.eval (.tmp 18)=(.pointer (some ⟨b,0,none⟩)):=hall.1 _ rfl;have e19:a'.eval (.tmp 19)=(.pointer (some ⟨b,0,none⟩)):=hall.2.1 _ rfl;have e20:a'.eval (.tmp 20)=(.pointer (some ⟨b,0,none⟩)):=hall.2.2.1 _ rfl;have e21:a'.eval (.tmp 21)=(.pointer (some ⟨b,0,none⟩)):=hall.2.2.2.1 _ rfl;have e22:a'.eval (.tmp 22)=(v):=hall.2.2.2.2.1 _ rfl;have e23:a'.eval (.tmp 23)=(.pointer (some ⟨br,1,none⟩)):=hall.2.2.2.2.2.1 _ rfl;have e24:a'.eval (.tmp 24)=(.int .u8 r.first):=hall.2.2.2.2.2.2.1 _ rfl;have e25:a'.eval (.tmp 25)=(.int .u64 n):=hall.2.2.2.2.2.2.2.1 _ rfl;have e26:a'.eval (.tmp 26)=(.int .u8 n):=hall.2.2.2.2.2.2.2.2.1 _ rfl;have e27:a'.eval (.tmp 27)=(.int .u8 y):=hall.2.2.2.2.2.2.2.2.2.1 _ rfl;have e28:(λ u w'=>∃b,u=.slice (some ⟨b,0,none⟩) 1 1∧some b≠v.ownBlock∧w'.heap[b]?=some (.cells ([.int .u8 y]).toArray 5 (0,0))) (a'.eval (.tmp 28)) w':=hall.2.2.2.2.2.2.2.2.2.2.1 _ rfl;have e29:(λ u w'=>w'.ownsRow (base) 5 1 u (s.size+1) (Lib.strCells s++[.int .u8 y])) (a'.eval (.tmp 29)) w':=hall.2.2.2.2.2.2.2.2.2.2.2.1 _ rfl;have e30:a'.eval (.tmp 30)=(.pointer (some ⟨b,0,none⟩)):=hall.2.2.2.2.2.2.2.2.2.2.2.2.1 _ rfl;have e31:a'.eval (.tmp 31)=(.pointer (some ⟨b,0,none⟩)):=hall.2.2.2.2.2.2.2.2.2.2.2.2.2.1 _ rfl
    obtain⟨v28,hv28⟩:∃v,a'.eval (.tmp 28)=v:=⟨_,rfl⟩
    rw[hv28]at e28
    obtain⟨v29,hv29⟩:∃v,a'.eval (.tmp 29)=v:=⟨_,rfl⟩
    rw[hv29]at e29
    simp only[List.foldl_cons,List.foldl_nil,Act.put,List.setIfInBounds_toArray,List.set_cons_succ,List.set_cons_zero,e18,e19,e20,e21,e22,e23,e24,e25,e26,e27,hv28,hv29,e30,e31]at hA
    clear hO hall e18 e19 e20 e21 e22 e23 e24 e25 e26 e27 hv28 hv29 e30 e31
    subst hA
    obtain⟨ga,gc,rfl⟩:=own_slice e29
    have hst:=wr_step (s':=s++baL [toB y]) hbase VV.out HOWN.out hE (by rw[baL_one];exact e29) (by rw[strCells_app,strCells_one hy0 hy1]);have HST:=Lib.hid hst;have hc4:=hst.1;have hf4:=hst.2.1;clear hst hE e29
    go_wp2
    go_ret
    refine⟨ret_bool HX.out.symm,?_,(WK.of_below VB.out HBS.out).trans HST.out.2.2.2⟩
    rw[HIF.out]
    have e4:rowB r n=[toB y]:=by unfold rowB;rw[if_pos HSZ.out,HY.out]
    rw[e4];exact HST.out.2.2.1
   ·have e0:(r.size == 0)=false:=by simpa using hsz
    have HSZ:=Lib.hid hsz;clear hsz
    go_upto_region 6 with fail
    obtain⟨br,hbr⟩:∃br,w.heap.size=br:=⟨_,rfl⟩
    obtain⟨V,hV⟩:∃V,w.alloc (.cells #[.int .u64 r.below,.int .u8 r.first,.int .i64 r.size] 336)=V:=⟨_,rfl⟩
    have VB:Hid (Below w.heap.size w V):=Lib.hid (by rw[←hV];exact balloc (Below.refl _ _) _);have VR:Hid (V.heap[br]?=some (.cells #[.int .u64 r.below,.int .u8 r.first,.int .i64 r.size] 336 (0,0))):=Lib.hid (by rw[←hV,←hbr];exact heap_alloc_new _ _);have VN:Hid (V.heap[bn]?=some (.cells #[.int .u64 n] 23 (0,0))):=Lib.hid ((VB.out.block _ (lt_of_block HN.out)).trans HN.out);have VW:Hid (V.heap[bw]?=some (.cells #[.pointer (some ⟨b,0,none⟩)] 177 (0,0))):=Lib.hid ((VB.out.block _ (lt_of_block HW2.out)).trans HW2.out);have VV:Hid (V.heap[b]?=some (.cells #[v] 233 (0,0))):=Lib.hid ((VB.out.block _ hltb).trans HV.out);have HOWN:=Lib.hid (own_below HOWN0.out VB.out);have HQ:Hid (∀g,v.ownBlock=some g→base≤g∧g<V.heap.size):=Lib.hid (λ g hg=>HOWN.out.lt g hg);have n1:=own_not8 HOWN.out VN.out n8n;have n2:=own_not8 HOWN.out VW.out n8b;have n3:=own_not8 HOWN.out VR.out n8r;have n4:=own_not8 HOWN.out VV.out n8w;have c1:V.cell? ⟨bn,0,none⟩=some (.int .u64 n):=block_cell VN.out 0;have c2:V.cell? ⟨bw,0,none⟩=some (.pointer (some ⟨b,0,none⟩)):=block_cell VW.out 0;have c3:V.cell? ⟨br,1,none⟩=some (.int .u8 r.first):=block_cell VR.out 1;have c4:V.cell? ⟨b,0,none⟩=some v:=block_cell VV.out 0;have hbV:base≤V.heap.size:=Nat.le_trans hbase (Nat.le_of_lt (lt_of_block VV.out))
    rw[hbr]
    try rw[hV]
    clear hV hbr cn cw cb
    refine wp_region_tail 11 8 (v.ownBlock) (phis [λ u _=>u=(.pointer (some ⟨b,0,none⟩)),λ u _=>u=(.pointer (some ⟨b,0,none⟩)),λ u _=>u=(.pointer (some ⟨b,0,none⟩)),λ u _=>u=(.pointer (some ⟨b,0,none⟩)),λ u _=>u=(v),λ u _=>u=(.pointer (some ⟨br,1,none⟩)),λ u _=>u=(.int .u8 r.first),λ u w'=>∃b,u=.slice (some ⟨b,0,none⟩) 1 1∧some b≠v.ownBlock∧w'.heap[b]?=some (.cells ([.int .u8 r.first]).toArray 5 (0,0)),λ u w'=>w'.ownsRow (base) 5 1 u (s.size+1) (Lib.strCells s++[.int .u8 r.first]),λ u _=>u=(.pointer (some ⟨b,0,none⟩)),λ u _=>u=(.pointer (some ⟨b,0,none⟩))]) rfl (by kernel_rfl) (by kernel_rfl) (mono_of ⟨mono_eq,mono_eq,mono_eq,mono_eq,mono_eq,mono_eq,mono_eq,?m7,?m8,mono_eq,mono_eq,trivial⟩) (steps_of 11 ⟨?s0,?s1,?s2,?s3,?s4,?s5,?s6,?s7,?s8,?s9,?s10,trivial⟩) ?_
    case m7=>
     exact⟨λ u w1 w' h ⟨b,h1,hb,hb'⟩=>⟨b,h1,hb,ext_block h hb'⟩,λ _ u w1 w' h ⟨b,h1,hb,hb'⟩=>⟨b,h1,hb,extB_block h hb hb'⟩⟩
    case m8=>
     exact⟨λ u w1 w' h hu=>own_below hu h,λ hn=>absurd rfl hn⟩
    case s0=>
     refine step_val (v:=(.pointer (some ⟨b,0,none⟩))) (λ av wv hE hS hO hD=>?_) (λ _=>rfl)
     have f2:=QEf av 2 (.pointer (some ⟨bw,0,none⟩)) (hO.2.2 2 rfl);have c1:=extB_cell hE n1 c1;have c2:=extB_cell hE n2 c2;have c3:=extB_cell hE n3 c3;have c4:=extB_cell hE n4 c4
     refine⟨rfl,?_⟩
     simp[go_sem,f2,c1,c2,c3,c4]
    case s1=>
     refine step_val (v:=(.pointer (some ⟨b,0,none⟩))) (λ av wv hE hS hO hD=>?_) (λ _=>rfl)
     have f2:=QEf av 2 (.pointer (some ⟨bw,0,none⟩)) (hO.2.2 2 rfl);have c1:=extB_cell hE n1 c1;have c2:=extB_cell hE n2 c2;have c3:=extB_cell hE n3 c3;have c4:=extB_cell hE n4 c4
     refine⟨rfl,?_⟩
     simp[go_sem,f2,c1,c2,c3,c4]
    case s2=>
     refine step_val (v:=(.pointer (some ⟨b,0,none⟩))) (λ av wv hE hS hO hD=>?_) (λ _=>rfl)
     have f33:=QEf av 33 (.pointer (some ⟨b,0,none⟩)) (hD.1 rfl _ rfl)
     refine⟨rfl,?_⟩
     simp[go_sem,f33]
    case s3=>
     refine step_val (v:=(.pointer (some ⟨b,0,none⟩))) (λ av wv hE hS hO hD=>?_) (λ _=>rfl)
     have f34:=QEf av 34 (.pointer (some ⟨b,0,none⟩)) (hD.1 rfl _ rfl)
     refine⟨rfl,?_⟩
     simp[go_sem,f34]
    case s4=>
     refine step_val (v:=(v)) (λ av wv hE hS hO hD=>?_) (λ _=>rfl)
     have f35:=QEf av 35 (.pointer (some ⟨b,0,none⟩)) (hD.1 rfl _ rfl);have c1:=extB_cell hE n1 c1;have c2:=extB_cell hE n2 c2;have c3:=extB_cell hE n3 c3;have c4:=extB_cell hE n4 c4
     refine⟨rfl,?_⟩
     simp[go_sem,f35,c1,c2,c3,c4]
    case s5=>
     refine step_val (v:=(.pointer (some ⟨br,1,none⟩))) (λ av wv hE hS hO hD=>?_) (λ _=>rfl)
     have f3:=QEf av 3 (.pointer (some ⟨br,0,none⟩)) (hO.2.2 3 rfl)
     refine⟨rfl,?_⟩
     simp[go_sem,f3]
    case s6=>
     refine step_val (v:=(.int .u8 r.first)) (λ av wv hE hS hO hD=>?_) (λ _=>rfl)
     have f37:=QEf av 37 (.pointer (some ⟨br,1,none⟩)) (hD.1 rfl _ rfl);have c1:=extB_cell hE n1 c1;have c2:=extB_cell hE n2 c2;have c3:=extB_cell hE n3 c3;have c4:=extB_cell hE n4 c4
     refine⟨rfl,?_⟩
     simp[go_sem,f37,c1,c2,c3,c4]
    case s7=>
     refine step_wp (λ av wv hE hS hO hD=>?_)
     have f38:=QEf av 38 (.int .u8 r.first) (hD.1 rfl _ rfl)
     refine⟨rfl,?_⟩
     refine wp_of_run (v:=.slice (some ⟨wv.heap.size,0,none⟩) 1 1) (w':=wv.alloc (.cells ([.int .u8 r.first]).toArray 5)) (by first | (simp[go_sem,f38];done) | (simp[go_sem,f38];rfl)) ⟨_,rfl,es_of_ext (balloc (Ext_refl _) _),wv.heap.size,rfl,?_,heap_alloc_new _ _⟩
     exact λ e=>absurd (HQ.out _ e.symm).2 (by have:=hE.size;simp at this;omega)
    case s8=>
     refine step_wp (λ av wv hE hS hO hD=>?_)
     have d36:av.eval (.tmp 36)=(v):=hD.1 rfl _ rfl;have f36:=(ev_form av 36).symm.trans d36;have d39:(λ u w'=>∃b,u=.slice (some ⟨b,0,none⟩) 1 1∧some b≠v.ownBlock∧w'.heap[b]?=some (.cells ([.int .u8 r.first]).toArray 5 (0,0))) (av.eval (.tmp 39)) wv:=hD.2.1 rfl _ rfl
     refine⟨rfl,?_⟩
     obtain⟨bS,hS1,hbS,hcS⟩:=d39
     have hown1:wv.ownsRow (base) 5 1 (v) (s.size) (Lib.strCells s):=own_below (w:=World.drew _) (HOWN.out) (hS rfl)
     refine wp_append_lies wv _ _ _ rfl (base) 5 i0 (.int .u8 0) 1 1 Tryz.underlying41 hi hz0 hz1 hz2 rfl (by decide) (v) (s.size) _ d36 hown1 ⟨bS,0,none⟩ 1 1 ([.int .u8 r.first]) (by exact hS1) rfl (World.news_of_block hcS) (one_u8 _) (by decide) (by unfold maxLen;omega) (by omega) (by have:=hE.size;simp at this;omega) _ rfl ?_
     intro g cap1 w2 hown2 hgrow hat hlt2
     exact⟨_,rfl,es_sp hgrow,hown2⟩
    case s9=>
     refine step_val (v:=(.pointer (some ⟨b,0,none⟩))) (λ av wv hE hS hO hD=>?_) (λ _=>rfl)
     have f32:=QEf av 32 (.pointer (some ⟨b,0,none⟩)) (hD.1 rfl _ rfl)
     refine⟨rfl,?_⟩
     simp[go_sem,f32]
    case s10=>
     refine step_val (v:=(.pointer (some ⟨b,0,none⟩))) (λ av wv hE hS hO hD=>?_) (λ _=>rfl)
     have f41:=QEf av 41 (.pointer (some ⟨b,0,none⟩)) (hD.1 rfl _ rfl)
     refine⟨rfl,?_⟩
     simp[go_sem,f41]
    intro a' w' hE hO hall
    have hA:=act_of_outer (ds:=[32,33,34,35,36,37,38,39,40,41,42]) rfl hO (by kernel_rfl);have e32:a'.eval (.tmp 32)=(.pointer (some ⟨b,0,none⟩)):=hall.1 _ rfl;have e33:a'.eval (.tmp 33)=(.pointer (some ⟨b,0,none⟩)):=hall.2.1 _ rfl;have e34:a'.eval (.tmp 34)=(.pointer (some ⟨b,0,none⟩)):=hall.2.2.1 _ rfl;have e35:a'.eval (.tmp 35)=(.pointer (some ⟨b,0,none⟩)):=hall.2.2.2.1 _ rfl;have e36:a'.eval (.tmp 36)=(v):=hall.2.2.2.2.1 _ rfl;have e37:a'.eval (.tmp 37)=(.pointer (some ⟨br,1,none⟩)):=hall.2.2.2.2.2.1 _ rfl;have e38:a'.eval (.tmp 38)=(.int .u8 r.first):=hall.2.2.2.2.2.2.1 _ rfl;have e39:(λ u w'=>∃b,u=.slice (some ⟨b,0,none⟩) 1 1∧some b≠v.ownBlock∧w'.heap[b]?=some (.cells ([.int .u8 r.first]).toArray 5 (0,0))) (a'.eval (.tmp 39)) w':=hall.2.2.2.2.2.2.2.1 _ rfl;have e40:(λ u w'=>w'.ownsRow (base) 5 1 u (s.size+1) (Lib.strCells s++[.int .u8 r.first])) (a'.eval (.tmp 40)) w':=hall.2.2.2.2.2.2.2.2.1 _ rfl;have e41:a'.eval (.tmp 41)=(.pointer (some ⟨b,0,none⟩)):=hall.2.2.2.2.2.2.2.2.2.1 _ rfl;have e42:a'.eval (.tmp 42)=(.pointer (some ⟨b,0,none⟩)):=hall.2.2.2.2.2.2.2.2.2.2.1 _ rfl
    obtain⟨v39,hv39⟩:∃v,a'.eval (.tmp 39)=v:=⟨_,rfl⟩
    rw[hv39]at e39
    obtain⟨v40,hv40⟩:∃v,a'.eval (.tmp 40)=v:=⟨_,rfl⟩
    rw[hv40]at e40
    simp only[List.foldl_cons,List.foldl_nil,Act.put,List.setIfInBounds_toArray,List.set_cons_succ,List.set_cons_zero,e32,e33,e34,e35,e36,e37,e38,hv39,hv40,e41,e42]at hA
    clear hO hall e32 e33 e34 e35 e36 e37 e38 hv39 hv40 e41 e42
    subst hA
    obtain⟨ga,gc,rfl⟩:=own_slice e40
    have hst:=wr_step (s':=s++baL [toB r.first]) hbase VV.out HOWN.out hE (by rw[baL_one];exact e40) (by rw[strCells_app,strCells_one f0 f1]);have HST:=Lib.hid hst;have hc4:=hst.1;have hf4:=hst.2.1;have HBR:Hid (w'.cell? ⟨br,2,none⟩=some (.int .i64 r.size)):=Lib.hid (extB_cell hE n3 (block_cell VR.out 2));clear hst hE e40 c1 c2 c3 c4;have hne:br≠b:=λ e=>by have h1:=VR.out;rw[e,VV.out]at h1;cases h1
    have c5:(w'.setCell ⟨b,0,none⟩ (.slice (some ⟨ga,0,none⟩) (s.size+1) gc)).cell? ⟨br,2,none⟩=some (.int .i64 r.size):=by
     have h:=(HST.out.2.2.2).keep br _ VR.out hne n8r
     exact block_cell h 2
    obtain⟨k,hk⟩:=Int.eq_ofNat_of_zero_le s0
    have HKK:=Lib.hid hk;have k8:k≤8:=by omega
    rw[hk]at c5
    have hw1:IntKind.i64.wrap ((k:Int) - 1)=(k:Int) - 1:=IntWalk.i64_in _ (by omega);clear hk HBR
    go_wp2
    obtain⟨V2,hV2⟩:∃V2,w'.setCell ⟨b,0,none⟩ (.slice (some ⟨ga,0,none⟩) (s.size+1) gc)=V2:=⟨_,rfl⟩
    have HWR2:Hid (WrB V2 b base (s++baL (toB r.first :: ((hiL n k).take (k - k)).map toB))):=Lib.hid (by rw[←hV2,Nat.sub_self];exact HST.out.2.2.1);have HWK2:Hid (WK base b V V2):=Lib.hid (by rw[←hV2];exact HST.out.2.2.2)
    try rw[hV2]
    clear hV2 HST hc4 hf4 c5 hw1 HWR;have nbn:bn≠b:=λ e=>by have h1:=VN.out;rw[e,VV.out]at h1;cases h1
    have nbw:bw≠b:=λ e=>by have h1:=VW.out;rw[e,VV.out]at h1;cases h1
    have hbVS:base≤V.heap.size:=hbV;clear n1 n2 n3 n4 hbV hltb HQ
    go_loopg [5] k (λ g i wr=>g≤k∧i=.int .i64 ((g:Int) - 1)∧Hid (WrB wr b base (s++baL (toB r.first :: ((hiL n k).take (k - g)).map toB)))∧Hid (WK base b V wr))
    case atStart=>exact⟨Nat.le_refl _,rfl,HWR2.out,HWK2.out⟩
    case round=>
     clear HWR2 HWK2
     obtain⟨hgk,rfl,HWR,HWK⟩:=hrel
     obtain⟨G,hG⟩:∃G,G=gk:=⟨_,rfl⟩
     subst hG
     cases G with
     | zero=>
      have e2:((0:Nat):Int) - 1=-1:=rfl
      rw[e2]
      clear e2
      go_wp2
      go_ret
      refine⟨ret_bool HX.out.symm,?_,(WK.of_below VB.out HBS.out).trans HWK.out⟩
      rw[HIF.out]
      have e4:rowB r n=toB r.first :: ((hiL n k).take (k - 0)).map toB:=by
       unfold rowB
       rw[if_neg HSZ.out,HKK.out,Nat.sub_zero,List.take_of_length_le (by rw[hiL_len];exact Nat.le_refl _)];rfl
      rw[e4];exact HWR.out
     | succ i=>
      have e2:((i+1:Nat):Int) - 1=(i:Int):=by omega
      rw[e2]
      obtain⟨t,ht⟩:∃t,s++baL (toB r.first :: ((hiL n k).take (k - (i+1))).map toB)=t:=⟨_,rfl⟩
      have hts:t.size≤70000000000009:=by
       rw[←ht,ByteArray.size_append,baL_size,List.length_cons,List.length_map,List.length_take,hiL_len];omega
      obtain⟨x,hx⟩:∃x,n / 2 ^ (8 * i) % 256=x:=⟨_,rfl⟩
      have hx0:0≤x∧x≤255:=by rw[←hx];omega
      have HT:Hid (s++baL (toB r.first :: ((hiL n k).take (k - i)).map toB)=t++baL [toB x]):=Lib.hid (by
       rw[←ht,hi_next n k i (by omega),show(256:Int) ^ i=2 ^ (8 * i)by rw[Int.pow_mul];rfl,hx,List.map_append,←List.cons_append,baL_app,ByteArray.append_assoc];rfl)
      rw[ht]at HWR
      have y0:IntKind.u8.wrap (n / 2 ^ (8 * i))=x:=by rw[IntKind.wrap_u8];exact hx
      have y1:IntKind.i64.wrap (8 * (i:Int))=8 * (i:Int):=IntWalk.i64_in _ (by omega);have y2:0≤8 * (i:Int):=by omega
      have y3:(8 * (i:Int)).toNat=8 * i:=by omega
      clear ht e2 hx
      obtain⟨-,v,hv,hown⟩:=HWR.out
      have VV2:=Lib.hid hv;have HOWN:=Lib.hid hown;have VN2:=Lib.hid (HWK.out.keep _ _ VN.out nbn n8n);have VW2:=Lib.hid (HWK.out.keep _ _ VW.out nbw n8b);have n8w:Not8 (.cells #[v] 233 (0,0)):=not8_cells (by decide);have HQ:Hid (∀g,v.ownBlock=some g→base≤g∧g<wr.heap.size):=Lib.hid (λ g hg=>HOWN.out.lt g hg);have n1:=own_not8 HOWN.out VN2.out n8n;have n2:=own_not8 HOWN.out VW2.out n8b;have n4:=own_not8 HOWN.out VV2.out n8w;have c1:wr.cell? ⟨bn,0,none⟩=some (.int .u64 n):=block_cell VN2.out 0;have c2:wr.cell? ⟨bw,0,none⟩=some (.pointer (some ⟨b,0,none⟩)):=block_cell VW2.out 0;have c4:wr.cell? ⟨b,0,none⟩=some v:=block_cell VV2.out 0;have hbV:base≤wr.heap.size:=Nat.le_trans hbase (Nat.le_of_lt (lt_of_block VV2.out));clear hv hown
      go_upto_region 10 with fail
      refine wp_region_tail 14 11 (v.ownBlock) (phis [λ u _=>u=(.pointer (some ⟨b,0,none⟩)),λ u _=>u=(.pointer (some ⟨b,0,none⟩)),λ u _=>u=(.pointer (some ⟨b,0,none⟩)),λ u _=>u=(.pointer (some ⟨b,0,none⟩)),λ u _=>u=(v),λ u _=>u=(.int .u64 n),λ u _=>u=(.int .i64 i),λ u _=>u=(.int .i64 (8 * (i:Int))),λ u _=>u=(.int .u64 (n / 2 ^ (8 * i))),λ u _=>u=(.int .u8 x),λ u w'=>∃b,u=.slice (some ⟨b,0,none⟩) 1 1∧some b≠v.ownBlock∧w'.heap[b]?=some (.cells ([.int .u8 x]).toArray 5 (0,0)),λ u w'=>w'.ownsRow (base) 5 1 u (t.size+1) (Lib.strCells t++[.int .u8 x]),λ u _=>u=(.pointer (some ⟨b,0,none⟩)),λ u _=>u=(.pointer (some ⟨b,0,none⟩))]) rfl (by kernel_rfl) (by kernel_rfl) (mono_of ⟨mono_eq,mono_eq,mono_eq,mono_eq,mono_eq,mono_eq,mono_eq,mono_eq,mono_eq,mono_eq,?m10,?m11,mono_eq,mono_eq,trivial⟩) (steps_of 14 ⟨?s0,?s1,?s2,?s3,?s4,?s5,?s6,?s7,?s8,?s9,?s10,?s11,?s12,?s13,trivial⟩) ?_
      case m10=>
       exact⟨λ u w1 w' h ⟨b,h1,hb,hb'⟩=>⟨b,h1,hb,ext_block h hb'⟩,λ _ u w1 w' h ⟨b,h1,hb,hb'⟩=>⟨b,h1,hb,extB_block h hb hb'⟩⟩
      case m11=>
       exact⟨λ u w1 w' h hu=>own_below hu h,λ hn=>absurd rfl hn⟩
      case s0=>
       refine step_val (v:=(.pointer (some ⟨b,0,none⟩))) (λ av wv hE hS hO hD=>?_) (λ _=>rfl)
       have f2:=QEf av 2 (.pointer (some ⟨bw,0,none⟩)) (hO.2.2 2 rfl);have c1:=extB_cell hE n1 c1;have c2:=extB_cell hE n2 c2;have c4:=extB_cell hE n4 c4
       refine⟨rfl,?_⟩
       simp[go_sem,f2,c1,c2,c4,y0,y1,y2,y3]
      case s1=>
       refine step_val (v:=(.pointer (some ⟨b,0,none⟩))) (λ av wv hE hS hO hD=>?_) (λ _=>rfl)
       have f2:=QEf av 2 (.pointer (some ⟨bw,0,none⟩)) (hO.2.2 2 rfl);have c1:=extB_cell hE n1 c1;have c2:=extB_cell hE n2 c2;have c4:=extB_cell hE n4 c4
       refine⟨rfl,?_⟩
       simp[go_sem,f2,c1,c2,c4,y0,y1,y2,y3]
      case s2=>
       refine step_val (v:=(.pointer (some ⟨b,0,none⟩))) (λ av wv hE hS hO hD=>?_) (λ _=>rfl)
       have f51:=QEf av 51 (.pointer (some ⟨b,0,none⟩)) (hD.1 rfl _ rfl)
       refine⟨rfl,?_⟩
       simp[go_sem,f51,y0,y1,y2,y3]
      case s3=>
       refine step_val (v:=(.pointer (some ⟨b,0,none⟩))) (λ av wv hE hS hO hD=>?_) (λ _=>rfl)
       have f52:=QEf av 52 (.pointer (some ⟨b,0,none⟩)) (hD.1 rfl _ rfl)
       refine⟨rfl,?_⟩
       simp[go_sem,f52,y0,y1,y2,y3]
      case s4=>
       refine step_val (v:=(v)) (λ av wv hE hS hO hD=>?_) (λ _=>rfl)
       have f53:=QEf av 53 (.pointer (some ⟨b,0,none⟩)) (hD.1 rfl _ rfl);have c1:=extB_cell hE n1 c1;have c2:=extB_cell hE n2 c2;have c4:=extB_cell hE n4 c4
       refine⟨rfl,?_⟩
       simp[go_sem,f53,c1,c2,c4,y0,y1,y2,y3]
      case s5=>
       refine step_val (v:=(.int .u64 n)) (λ av wv hE hS hO hD=>?_) (λ _=>rfl)
       have f1:=QEf av 1 (.pointer (some ⟨bn,0,none⟩)) (hO.2.2 1 rfl);have c1:=extB_cell hE n1 c1;have c2:=extB_cell hE n2 c2;have c4:=extB_cell hE n4 c4
       refine⟨rfl,?_⟩
       simp[go_sem,f1,c1,c2,c4,y0,y1,y2,y3]
      case s6=>
       refine step_val (v:=(.int .i64 i)) (λ av wv hE hS hO hD=>?_) (λ _=>rfl)
       have f5:=QEf av 5 (.int .i64 i) (hO.2.2 5 rfl)
       refine⟨rfl,?_⟩
       simp[go_sem,f5,y0,y1,y2,y3]
      case s7=>
       refine step_val (v:=(.int .i64 (8 * (i:Int)))) (λ av wv hE hS hO hD=>?_) (λ _=>rfl)
       have f56:=QEf av 56 (.int .i64 i) (hD.1 rfl _ rfl)
       refine⟨rfl,?_⟩
       simp[go_sem,f56,y0,y1,y2,y3]
      case s8=>
       refine step_val (v:=(.int .u64 (n / 2 ^ (8 * i)))) (λ av wv hE hS hO hD=>?_) (λ _=>rfl)
       have f55:=QEf av 55 (.int .u64 n) (hD.1 rfl _ rfl);have f57:=QEf av 57 (.int .i64 (8 * (i:Int))) (hD.2.1 rfl _ rfl)
       refine⟨rfl,?_⟩
       simp[go_sem,f55,f57,y0,y1,y2,y3]
      case s9=>
       refine step_val (v:=(.int .u8 x)) (λ av wv hE hS hO hD=>?_) (λ _=>rfl)
       have f58:=QEf av 58 (.int .u64 (n / 2 ^ (8 * i))) (hD.1 rfl _ rfl)
       refine⟨rfl,?_⟩
       simp[go_sem,f58,y0,y1,y2,y3]
      case s10=>
       refine step_wp (λ av wv hE hS hO hD=>?_)
       have f59:=QEf av 59 (.int .u8 x) (hD.1 rfl _ rfl)
       refine⟨rfl,?_⟩
       refine wp_of_run (v:=.slice (some ⟨wv.heap.size,0,none⟩) 1 1) (w':=wv.alloc (.cells ([.int .u8 x]).toArray 5)) (by first | (simp[go_sem,f59,y0,y1,y2,y3];done) | (simp[go_sem,f59,y0,y1,y2,y3];rfl)) ⟨_,rfl,es_of_ext (balloc (Ext_refl _) _),wv.heap.size,rfl,?_,heap_alloc_new _ _⟩
       exact λ e=>absurd (HQ.out _ e.symm).2 (by have:=hE.size;simp at this;omega)
      case s11=>
       refine step_wp (λ av wv hE hS hO hD=>?_)
       have d54:av.eval (.tmp 54)=(v):=hD.1 rfl _ rfl;have f54:=(ev_form av 54).symm.trans d54;have d60:(λ u w'=>∃b,u=.slice (some ⟨b,0,none⟩) 1 1∧some b≠v.ownBlock∧w'.heap[b]?=some (.cells ([.int .u8 x]).toArray 5 (0,0))) (av.eval (.tmp 60)) wv:=hD.2.1 rfl _ rfl
       refine⟨rfl,?_⟩
       obtain⟨bS,hS1,hbS,hcS⟩:=d60
       have hown1:wv.ownsRow (base) 5 1 (v) (t.size) (Lib.strCells t):=own_below (w:=World.drew _) (HOWN.out) (hS rfl)
       refine wp_append_lies wv _ _ _ rfl (base) 5 i0 (.int .u8 0) 1 1 Tryz.underlying41 hi hz0 hz1 hz2 rfl (by decide) (v) (t.size) _ d54 hown1 ⟨bS,0,none⟩ 1 1 ([.int .u8 x]) (by exact hS1) rfl (World.news_of_block hcS) (one_u8 _) (by decide) (by unfold maxLen;omega) (by omega) (by have:=hE.size;simp at this;omega) _ rfl ?_
       intro g cap1 w2 hown2 hgrow hat hlt2
       exact⟨_,rfl,es_sp hgrow,hown2⟩
      case s12=>
       refine step_val (v:=(.pointer (some ⟨b,0,none⟩))) (λ av wv hE hS hO hD=>?_) (λ _=>rfl)
       have f50:=QEf av 50 (.pointer (some ⟨b,0,none⟩)) (hD.1 rfl _ rfl)
       refine⟨rfl,?_⟩
       simp[go_sem,f50,y0,y1,y2,y3]
      case s13=>
       refine step_val (v:=(.pointer (some ⟨b,0,none⟩))) (λ av wv hE hS hO hD=>?_) (λ _=>rfl)
       have f62:=QEf av 62 (.pointer (some ⟨b,0,none⟩)) (hD.1 rfl _ rfl)
       refine⟨rfl,?_⟩
       simp[go_sem,f62,y0,y1,y2,y3]
      intro a' w' hE hO hall
      have hA:=act_of_outer (ds:=[50,51,52,53,54,55,56,57,58,59,60,61,62,63]) rfl hO (by kernel_rfl);have e50:a'.eval (.tmp 50)=(.pointer (some ⟨b,0,none⟩)):=hall.1 _ rfl;have e51:a'.eval (.tmp 51)=(.pointer (some ⟨b,0,none⟩)):=hall.2.1 _ rfl;have e52:a'.eval (.tmp 52)=(.pointer (some ⟨b,0,none⟩)):=hall.2.2.1 _ rfl;have e53:a'.eval (.tmp 53)=(.pointer (some ⟨b,0,none⟩)):=hall.2.2.2.1 _ rfl;have e54:a'.eval (.tmp 54)=(v):=hall.2.2.2.2.1 _ rfl;have e55:a'.eval (.tmp 55)=(.int .u64 n):=hall.2.2.2.2.2.1 _ rfl;have e56:a'.eval (.tmp 56)=(.int .i64 i):=hall.2.2.2.2.2.2.1 _ rfl;have e57:a'.eval (.tmp 57)=(.int .i64 (8 * (i:Int))):=hall.2.2.2.2.2.2.2.1 _ rfl;have e58:a'.eval (.tmp 58)=(.int .u64 (n / 2 ^ (8 * i))):=hall.2.2.2.2.2.2.2.2.1 _ rfl;have e59:a'.eval (.tmp 59)=(.int .u8 x):=hall.2.2.2.2.2.2.2.2.2.1 _ rfl;have e60:(λ u w'=>∃b,u=.slice (some ⟨b,0,none⟩) 1 1∧some b≠v.ownBlock∧w'.heap[b]?=some (.cells ([.int .u8 x]).toArray 5 (0,0))) (a'.eval (.tmp 60)) w':=hall.2.2.2.2.2.2.2.2.2.2.1 _ rfl;have e61:(λ u w'=>w'.ownsRow (base) 5 1 u (t.size+1) (Lib.strCells t++[.int .u8 x])) (a'.eval (.tmp 61)) w':=hall.2.2.2.2.2.2.2.2.2.2.2.1 _ rfl;have e62:a'.eval (.tmp 62)=(.pointer (some ⟨b,0,none⟩)):=hall.2.2.2.2.2.2.2.2.2.2.2.2.1 _ rfl;have e63:a'.eval (.tmp 63)=(.pointer (some ⟨b,0,none⟩)):=hall.2.2.2.2.2.2.2.2.2.2.2.2.2.1 _ rfl
      obtain⟨v60,hv60⟩:∃v,a'.eval (.tmp 60)=v:=⟨_,rfl⟩
      rw[hv60]at e60
      obtain⟨v61,hv61⟩:∃v,a'.eval (.tmp 61)=v:=⟨_,rfl⟩
      rw[hv61]at e61
      simp only[List.foldl_cons,List.foldl_nil,Act.put,List.setIfInBounds_toArray,List.set_cons_succ,List.set_cons_zero,e50,e51,e52,e53,e54,e55,e56,e57,e58,e59,hv60,hv61,e62,e63]at hA
      clear hO hall e50 e51 e52 e53 e54 e55 e56 e57 e58 e59 hv60 hv61 e62 e63
      subst hA
      obtain⟨ga,gc,rfl⟩:=own_slice e61
      have hst:=wr_step (s':=t++baL [toB x]) hbase VV2.out HOWN.out hE (by rw[baL_one];exact e61) (by rw[strCells_app,strCells_one hx0.1 hx0.2]);have HST:=Lib.hid hst;have hc4:=hst.1;have hf4:=hst.2.1;clear hst hE e61 c1 c2 c4 n1 n2 n4
      go_wp2
      go_roundg i
      case rel=>exact⟨by omega,by go_num,by rw[HT.out];exact HST.out.2.2.1,HWK.out.trans HST.out.2.2.2⟩
      case measure=>omega
 ·have HX:Hid (decide (n<r.below ∨ r.below=0)=false):=Lib.hid (decide_eq_false hx)
  have g1:decide (r.below≤n)=true:=by simp;omega
  have g2:decide (0<r.below)=true:=by have:=HR.out.b0;simp;omega
  have HNX:=Lib.hid hx;clear hx
  go_enter Tryz.func291,Tryz.ntmps291
  go_wp2
  go_ret
  exact⟨ret_bool HX.out.symm,by rw[if_neg HNX.out];exact HWR.out.below (by(repeat (first | exact Below.refl _ _ | assumption | (refine bdrew ?_) | (refine bdrewN ?_ _) | (refine balloc ?_ _) | (refine bset ?_ (by first | omega | (simp;done) | (simp;omega)) _) | (refine bnext ?_ (by assumption))))),WK.of_below (by(repeat (first | exact Below.refl _ _ | assumption | (refine bdrew ?_) | (refine bdrewN ?_ _) | (refine balloc ?_ _) | (refine bset ?_ (by first | omega | (simp;done) | (simp;omega)) _) | (refine bnext ?_ (by assumption))))) (by have:=HWR.out.1;have:=HWR.out.lt;omega)⟩
end Go.Proofs.YtpobhbdomldecaaGreatDoor

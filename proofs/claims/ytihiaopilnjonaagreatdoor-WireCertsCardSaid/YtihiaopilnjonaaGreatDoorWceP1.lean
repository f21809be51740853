/- Parts of the proof, one behind the other. -/
import Derived.Test.YtihiaopilnjonaaGreatDoorRows
import Derived.WalkKit
import Derived.WalkSpells
import Derived.WalkLawsBesides
import Derived.Lib.Hide
import Derived.Deep.Draws
import Derived.Shelf.Spec.BitsCarry
import Derived.Deep.QuietTactic
import Derived.BigQuiet
import Derived.StillTailTactics
import Derived.Deep.LoopGhost
import Derived.Deep.RegionWith
import Derived.Deep.DeepCutAuto
import Derived.Deep.AppendLies
import Derived.Laws.OwnMore
import Derived.Deep.CutBlock
import Derived.StillTail
import Derived.NoCompiler
import Derived.IntWalk
import Derived.WalkMore
import Derived.Lib.ConvBytes
import Derived.Lib.Strings
import Derived.Defers
import Derived.Recover
import Derived.LaidEql
import Derived.Stop.Asserts
import Derived.RowKitTokens
import Derived.Lib.AppendStr
namespace Go.Proofs.YtihiaopilnjonaaGreatDoor
open Go.RowKit
open Go.RowKit Go.Extern.Stop Go.Stop Go.Extern
set_option linter.unusedSimpArgs false
set_option linter.unusedVariables false
set_option maxRecDepth 100000
set_option maxHeartbeats 8000000
theorem QLh {P : Prop} (h : P) : Hid P := Lib.hid h
abbrev pt (b o : Nat) : Value := .pointer (some ⟨b, o, none⟩)
attribute [local go_sem] pt
def len{α:Type}(l:List α):Nat:=l.length
theorem Zm{α:Type}(l:List α):len l=l.length:=rfl
theorem Qvg{α:Type}(l:List α):l.take (len l)=l:=List.take_length
def nth(l:List Int)(i:Nat):Int:=l.getD i 0
theorem Qce(l:List Int)(i:Nat)(h:i<l.length):nth l i=l[i]:=by
 unfold nth;rw[List.getD_eq_getElem?_getD,List.getElem?_eq_getElem h];rfl
theorem Qw{w:World}{b o:Nat}{v:Value}(h:w.cell? ⟨b,o,none⟩=some v):b<w.heap.size:=by
 unfold World.cell? at h
 rcases Nat.lt_or_ge b w.heap.size with h' | h'
 ·exact h'
 ·simp[Array.getElem?_eq_none h']at h
theorem Z7{a b:Bool}(h:a=b):Ending.returned (.bool a)=.returned (.bool b):=by rw[h]
theorem Qnw{B:Nat}{a w:World}(h:Below B a w)(n:Nat):Below B a (w.drewN n):=⟨h.os,h.tape,h.output,h.size,h.block⟩
theorem Qa{w:World}{b:Nat}{cs:Array Value}{t:TypeId}{fr:Nat × Nat}(h:w.heap[b]?=some (.cells cs t fr))(o:Nat):w.cell? ⟨b,o,none⟩=cs[o]?:=by
 unfold World.cell?;rw[h];rfl
theorem Qj{w:World}{b:Nat}{cs:Array Value}{t:TypeId}(h:w.heap[b]?=some (.cells cs t (0,0)))(o:Nat):w.frozen? ⟨b,o,none⟩=false:=by
 unfold World.frozen?;rw[h];simp
theorem Qf{w:World}{b:Nat}{x:Obj}(h:w.heap[b]?=some x)(o:Obj):(w.alloc o).heap[b]?=some x:=by
 rw[Below.heap_alloc _ _ _ (lt_of_block h)];exact h
theorem Qi{w:World}{n:Nat}(o:Obj)(h:w.heap.size=n):(w.alloc o).heap[n]?=some o:=by
 subst h;exact heap_alloc_new w o
theorem Z1{w:World}{n:Nat}(o:Obj)(h:w.heap.size=n):(w.alloc o).heap.size=n+1:=by simp;exact h
theorem Qb{w:World}{b o:Nat}{cs:Array Value}{t:TypeId}{fr:Nat × Nat}(h:w.heap[b]?=some (.cells cs t fr))(v:Value):
  (w.setCell ⟨b,o,none⟩ v).heap[b]?=some (.cells (cs.setIfInBounds o v) t fr):=by
 have hlt:=lt_of_block h;have h':w.heap[b]=.cells cs t fr:=by simpa [Array.getElem?_eq_getElem hlt] using h
 show(w.heap.modify b _)[b]?=_
 rw[Array.getElem?_eq_getElem (by simpa using hlt),Array.getElem_modify_self,h']
 rfl
theorem Qg{w:World}{b:Nat}{x:Obj}(h:w.heap[b]?=some x){p:Addr}(hp:b≠p.block)(v:Value):(w.setCell p v).heap[b]?=some x:=by
 rw[Below.heap_setCell _ _ _ _ hp];exact h
theorem Qdw{α β:Type}(f:α→List β)(k:Nat)(hf:∀x,(f x).length=k):∀(l:List α) (i r:Nat) (hi:i<l.length),r<k→(l.flatMap f)[i * k+r]?=(f l[i])[r]?
 | x :: l,0,r,_,hr=>by
  simp only[List.flatMap_cons,Nat.zero_mul,Nat.zero_add,List.getElem_cons_zero]
  rw[List.getElem?_append_left (by rw[hf];exact hr)]
 | x :: l,i+1,r,hi,hr=>by
  simp only[List.flatMap_cons,List.getElem_cons_succ]
  rw[List.getElem?_append_right (by rw[hf,Nat.add_mul];omega),hf,show(i+1) * k+r - k=i * k+r by rw[Nat.add_mul];omega]
  exact Qdw f k hf l i r (by simpa using hi) hr
theorem Qac{α β:Type}(f:α→List β)(k:Nat)(hf:∀x,(f x).length=k):∀(l:List α),(l.flatMap f).length=l.length * k
 | []=>by simp
 | x :: l=>by rw[List.flatMap_cons,List.length_append,hf,Qac f k hf l,List.length_cons,Nat.add_mul];omega
def U64s(w:World)(a:Option Addr)(l:List Int):Prop:=
 ∀i,i<len l→∃b off,a=some ⟨b,off,none⟩∧w.cell? ⟨b,off+i,none⟩=some (.int .u64 (nth l i))
theorem U64s.nil(w:World)(a:Option Addr):U64s w a []:=λ i h=>by simp[len]at h
theorem Qk{w b c:World}(h:Below w.heap.size w b)(k:Below b.heap.size b c):Below w.heap.size w c:=h.trans (k.mono h.size)
theorem Qh{w b:World}(h:Below w.heap.size w b)(o:Obj):Below w.heap.size w (b.alloc o):=h.alloc h.size o
theorem Zd{w b:World}(h:Below w.heap.size w b):Below w.heap.size w b.drew:=h.drew
theorem Zc{w b:World}(h:Below w.heap.size w b)(n:Nat):Below w.heap.size w (b.drewN n):=Qnw h n
theorem Zs{w b:World}(h:Below w.heap.size w b){p:Addr}(hp:w.heap.size≤p.block)(u:Value):Below w.heap.size w (b.setCell p u):=h.setCell hp u
theorem Qvh{w:World}{base e n:Nat}{v:Value}{l:List Int}(h:w.ownsRow base e 1 v n (l.map (Value.int .u64))):∃a cap,v=.slice a (len l) cap∧U64s w a l:=by
 have hn:len l=n:=by have:=h.1;rw[Zm];simpa using this
 obtain⟨h1,h2⟩:=h
 rcases h2 with⟨rfl,h2⟩ | ⟨g,cap,cur,rfl,hg,hh,hc1,hc2,hc3,hc4⟩
 ·obtain rfl:l=[]:=List.eq_nil_of_length_eq_zero (by rw[←Zm];omega)
  exact⟨none,0,rfl,U64s.nil _ _⟩
 ·refine⟨some ⟨g,0,none⟩,cap,by rw[hn],λ i hi=>⟨g,0,rfl,?_⟩⟩
  have hown:w.ownsRow base e 1 (.slice (some ⟨g,0,none⟩) n cap) n (l.map (Value.int .u64)):=⟨h1,.inr ⟨g,cap,cur,rfl,hg,hh,hc1,hc2,hc3,hc4⟩⟩;have:=hown.cellAt i (by omega)
  rw[Nat.zero_add,this,List.getElem?_map,List.getElem?_eq_getElem hi,Qce l i hi];rfl
theorem Qo4:(Tryz.prog.info? 23).map (λ i=>(i.zero,i.size,i.bytes))=some (some (.int .u64 0),1,8):=by kernel_rfl
theorem J0{w b c:World}{row:Option Nat}(h:Below w.heap.size w b)(hg:b.grownBy c row)(hr:∀k,row=some k→w.heap.size≤k):Below w.heap.size w c:=
 h.grown hg h.size hr
theorem Qnx{w w':World}(h:Below w.heap.size w w'):w.grownBy w' none:=⟨h.os,h.tape,h.output,h.size,λ i hi _=>h.block i hi⟩
theorem Zi{w w':World}{base e size n:Nat}{v:Value}{xs:List Value}(h:w.ownsRow base e size v n xs)(hb:Below w.heap.size w w'):w'.ownsRow base e size v n xs:=
 h.kept (Qnx hb) (by cases v.ownBlock <;> simp)
def Ext(w w':World):Prop:=Below w.heap.size w w'
theorem Zr:∀w,Ext w w:=λ _=>Below.refl _ _
theorem Qr6:∀a b c,Ext a b→Ext b c→Ext a c:=λ _ _ _ h k=>Qk h k
theorem Zt{w w1:World}(h:Ext w w1){b:Nat}{x:Obj}(hc:w.heap[b]?=some x):w1.heap[b]?=some x:=(h.block b (lt_of_block hc)).trans hc
def Jg(row:Option Nat)(w w':World):Prop:=w.grownBy w' row
theorem Qan(row:Option Nat):∀w,Jg row w w:=λ _=>⟨rfl,rfl,rfl,Nat.le_refl _,λ _ _ _=>rfl⟩
theorem Qdx(row:Option Nat):∀a b c,Jg row a b→Jg row b c→Jg row a c:=λ _ _ _ h k=>
 ⟨k.os.trans h.os,k.tape.trans h.tape,k.output.trans h.output,Nat.le_trans h.size k.size,λ i hi hn=>(k.block i (Nat.lt_of_lt_of_le hi h.size) hn).trans (h.block i hi hn)⟩
theorem Qn{row:Option Nat}{w w1:World}(h:Jg row w w1){b:Nat}(hn:some b≠row){x:Obj}(hc:w.heap[b]?=some x):w1.heap[b]?=some x:=(h.block b (lt_of_block hc) hn).trans hc
theorem Qd{row:Option Nat}{w w1:World}(h:Jg row w.drew w1){b o:Nat}(hn:some b≠row){v:Value}(hc:w.cell? ⟨b,o,none⟩=some v):w1.cell? ⟨b,o,none⟩=some v:=by
 have e:w1.cell? ⟨b,o,none⟩=w.cell? ⟨b,o,none⟩:=World.cell?_of_block (w:=w) (h.block b (Qw hc) hn)
 rw[e];exact hc
theorem Zn{P:Program}{o:Oper}{a:Act}{w w':World}{v:Value}{K:Act→World→Prop}{Q:Exit→Act→World→Prop}(h:(execOp a.eval o).run P w=.ok (.value v) w')(hK:K (a.put o.dst v) w'):o.wp P a w K Q:=by
 unfold Oper.wp;rw[h];exact hK
def Es(sp:Nat)(vo:Option Nat)(j:Nat)(w w':World):Prop:=if j=sp then Jg vo w w' else Ext w w'
theorem Qhl{vo:Option Nat}{w w':World}(h:Ext w w'):Jg vo w w':=⟨h.os,h.tape,h.output,h.size,λ i hi _=>h.block i hi⟩
theorem Qx5{sp j:Nat}{vo:Option Nat}{w w':World}(h:Es sp vo j w w'):Jg vo w w':=by
 unfold Es at h;split at h
 ·exact h
 ·exact Qhl h
theorem Qm{sp j:Nat}{vo:Option Nat}{w w':World}(h:Ext w w'):Es sp vo j w w':=by
 unfold Es;split
 ·exact Qhl h
 ·exact h
theorem Qcf{sp:Nat}{vo:Option Nat}{w w':World}(h:Jg vo w w'):Es sp vo sp w w':=by unfold Es;rw[if_pos rfl];exact h
def Z8(o:Oper)(a:Act):Value:=match o.dst with | some d=>a.eval (.tmp d) | none=>undef
def Js(o:Oper)(v:Value):Value:=match o.dst with | some _=>v | none=>undef
def X4(ops:List Oper):List Nat:=ops.filterMap (·.dst)
def Qau(ops:List Oper)(n:Nat):Bool:=
 (ops.zipIdx.all fun (o,i)=>o.after.all λ e=>!Region.binds .any e || decide (e.on<i)) && decide (X4 ops).Nodup && (X4 ops).all (λ d=>decide (d<n))
section
variable (P:Program) (ops:List Oper) (a0:Act) (w0:World) (sp:Nat) (vo:Option Nat) (Φ:Nat→Value→World→Prop) (Q:Exit→Act→World→Prop)
def Qdg(hd:Nat)(a:Act):Prop:=a.defers=a0.defers∧a.tmps.size=a0.tmps.size∧∀t,(X4 (ops.take hd)).contains t=false→a.eval (.tmp t)=a0.eval (.tmp t)
def Qny(a:Act)(w:World):List Edge→Prop
 | []=>True
 | e :: r=>(Region.binds .any e=true→∀o,ops[e.on]?=some o→Φ e.on (Z8 o a) w)∧Qny a w r
def Qfh(hd:Nat)(i:Nat)(o:Oper):Prop:=∀a w,Jg vo w0 w→(i=sp→Ext w0 w)→Qdg ops a0 hd a→Qny ops Φ a w o.after.toList→
 if Region.wanted o (yielded ops.toArray a.tmps)then o.wp P a w (λ a' w'=>∃v,a'=a.put o.dst v∧Es sp vo i w w'∧Φ i (Js o v) w') Q else Φ i undef w
structure RInv(n:Nat)(listed:Array Bool)(a:Act)(w:World):Prop where
 head:HeadInv .any ops.toArray n listed
 ext:Jg vo w0 w
 ext0:listed.getD sp true=false→Ext w0 w
 outer:Qdg ops a0 n a
 done:∀(i:Nat) o,ops[i]?=some o→listed.getD i true=true→Φ i (Z8 o a) w
variable {P ops a0 w0 sp vo Φ Q}
theorem Qks{a:Act}{w:World}:∀{l:List Edge},(∀e ∈ l,Region.binds .any e=true→∀o,ops[e.on]?=some o→Φ e.on (Z8 o a) w)→Qny ops Φ a w l
 | [],_=>trivial
 | e :: r,h=>⟨h e (List.mem_cons_self ..),Qks λ e' he'=>h e' (List.mem_cons_of_mem _ he')⟩
theorem Qh7{ops:List Oper}(hn:(X4 ops).Nodup){i j:Nat}(hij:i≠j){oi oj:Oper}{d:Nat}(hi:ops[i]?=some oi)(hj:ops[j]?=some oj)(h1:oi.dst=some d)(h2:oj.dst=some d):False:=by
 induction ops generalizing i j with
 | nil=>simp at hi
 | cons o r ih=>
  unfold X4 at hn
  rw[List.filterMap_cons]at hn
  have hr:(X4 r).Nodup:=by
   unfold X4
   cases ho:o.dst with
   | none=>rw[ho]at hn;exact hn
   | some d'=>rw[ho]at hn;exact(List.nodup_cons.1 hn).2
  have head:∀(k:Nat) ok,r[k]?=some ok→o.dst=some d→ok.dst=some d→False:=λ k ok hk ho hok=>by
   rw[ho]at hn
   exact(List.nodup_cons.1 hn).1 (List.mem_filterMap.2 ⟨ok,List.mem_of_getElem? hk,hok⟩)
  cases i with
  | zero=>
   cases j with
   | zero=>exact hij rfl
   | succ j=>
    simp at hi hj;subst hi
    exact head j oj hj h1 h2
  | succ i=>
   cases j with
   | zero=>
    simp at hi hj;subst hj
    exact head i oi hi h2 h1
   | succ j=>exact ih hr (λ e=>hij (congrArg (·+1) e)) (by simpa using hi) (by simpa using hj)
theorem Je{a:Act}{d t:Nat}{v:Value}(h:t≠d):(a.put (some d) v).eval (.tmp t)=a.eval (.tmp t):=by
 show(a.tmps.setIfInBounds d v).getD t undef=a.tmps.getD t undef
 simp[Array.getD_eq_getD_getElem?,Array.getElem?_setIfInBounds_ne (Ne.symm h)]
theorem J1{a:Act}{d:Nat}{v:Value}(h:d<a.tmps.size):(a.put (some d) v).eval (.tmp d)=v:=by
 show(a.tmps.setIfInBounds d v).getD d undef=v
 simp[Array.getD_eq_getD_getElem?,h]
theorem Qaa(hB:Qau ops a0.tmps.size=true){listed:Array Bool}(hs:listed.size=ops.length)(hr:Region.ready .any ops.toArray listed=[]):
  ∀i,i<ops.length→listed.getD i true=true:=by
 intro i
 induction i using Nat.strongRecOn with
 | _ i ih=>
  intro hi
  cases h:listed.getD i true with
  | true=>rfl
  | false=>
   exfalso
   have hm:i ∈ Region.ready .any ops.toArray listed:=by
    refine mem_ready.2 ⟨h,ops[i],by simp[hi],λ e he hb=>?_⟩
    have h1:(ops.zipIdx.all fun (o,i)=>o.after.all λ e=>!Region.binds .any e || decide (e.on<i))=true:=by
     unfold Qau at hB;simp only[Bool.and_eq_true]at hB;exact hB.1.1
    have h2:=List.all_eq_true.1 h1 (ops[i],i) (by rw[List.mem_zipIdx_iff_getElem?];simp[hi]);have h3:=Array.all_eq_true'.1 h2 e he
    simp only[hb,Bool.not_true,Bool.false_or,decide_eq_true_eq]at h3
    have h4:=ih e.on h3 (by omega);have h5:e.on<listed.size:=by omega
    simp[h5]at h4 ⊢;exact h4
   rw[hr]at hm;cases hm
def Qgm(ops:List Oper)(Φ:Nat→Value→World→Prop)(a:Act)(w:World):Nat→Nat→Prop
 | _,0=>True
 | i,n+1=>(∀o,ops[i]?=some o→Φ i (Z8 o a) w)∧Qgm ops Φ a w (i+1) n
theorem Qcg{a:Act}{w:World}:∀(n i:Nat),(∀j,i≤j→j<i+n→∀o,ops[j]?=some o→Φ j (Z8 o a) w)→Qgm ops Φ a w i n
 | 0,_,_=>trivial
 | n+1,i,h=>⟨h i (Nat.le_refl _) (by omega),Qcg n (i+1) λ j h1 h2=>h j (by omega) (by omega)⟩
theorem RInv.next{n:Nat}(hB:Qau ops a0.tmps.size=true)
  (hmono:∀i j v w w',i≠j→Jg vo w0 w→Es sp vo j w w'→Φ i v w→Φ i v w') {listed:Array Bool} {a:Act} {w:World} (inv:RInv ops a0 w0 sp vo Φ n listed a w)
  {i:Nat} {o:Oper} (hi:i ∈ Region.ready .any ops.toArray listed) (hin:i<n) (ho':ops[i]?=some o) {v:Value} {w':World} (he:Es sp vo i w w') (hv:Φ i (Js o v) w'):
  RInv ops a0 w0 sp vo Φ n (listed.setIfInBounds i true) (a.put o.dst v) w':=by
 have hnd:(X4 ops).Nodup:=by unfold Qau at hB;simp only[Bool.and_eq_true,decide_eq_true_eq]at hB;exact hB.1.2
 have hdl:∀d ∈ X4 ops,d<a0.tmps.size:=by
  unfold Qau at hB;simp only[Bool.and_eq_true]at hB
  intro d hd;simpa using List.all_eq_true.1 hB.2 d hd
 refine⟨inv.head.set hi hin,Qdx _ _ _ _ inv.ext (Qx5 he),λ hl=>?_,?_,?_⟩
 ·by_cases his:i=sp
  ·exfalso
   subst his
   obtain⟨hun,o',ho,_⟩:=mem_ready.1 hi
   have hil:i<listed.size:=by rw[inv.head.size];exact(Array.getElem?_eq_some_iff.1 ho).1
   simp[hil]at hl
  ·rw[getD_set_ne true his]at hl
   unfold Es at he;rw[if_neg his]at he
   exact Qr6 _ _ _ (inv.ext0 hl) he
 ·obtain⟨h1,h2,h3⟩:=inv.outer
  cases hd:o.dst with
  | none=>exact⟨h1,h2,h3⟩
  | some d=>
   refine⟨h1,by simp[Act.put,h2],λ t ht=>?_⟩
   have hmem:d ∈ X4 (ops.take n):=List.mem_filterMap.2 ⟨o,List.mem_of_getElem? (i:=i) (by rw[List.getElem?_take,if_pos hin];exact ho'),hd⟩
   rw[Je (by rintro rfl;simp at ht;exact ht hmem)];exact h3 t ht
 ·intro j oj hoj hl
  by_cases hij:j=i
  ·subst hij
   have:oj=o:=Option.some.inj (hoj.symm.trans ho')
   subst this
   unfold Z8
   unfold Js at hv
   cases hd:oj.dst with
   | none=>simpa [hd] using hv
   | some d=>
    simp only[hd]at hv
    have hmem:d ∈ X4 ops:=List.mem_filterMap.2 ⟨oj,List.mem_of_getElem? ho',hd⟩
    simp only
    rw[J1 (by rw[inv.outer.2.1];exact hdl d hmem)];exact hv
  ·rw[getD_set_ne true (Ne.symm hij)]at hl
   have h1:=hmono j i _ w w' hij inv.ext he (inv.done j oj hoj hl)
   unfold Z8 at h1 ⊢
   cases hdj:oj.dst with
   | none=>first | exact h1 | simpa [hdj] using h1
   | some d=>
    try simp only[hdj]at h1 ⊢
    cases hdo:o.dst with
    | none=>exact h1
    | some d'=>
     have hne:d≠d':=by
      rintro rfl
      exact Qh7 hnd (Ne.symm hij) ho' hoj hdo hdj
     rw[Je hne];exact h1
theorem Qgn{listed:Array Bool}{i:Nat}(hil:i<listed.size)(hun:listed.getD i true=false):∀L:List Nat,L.Nodup→i ∈ L→
  (L.filter (λ j=>!(listed.setIfInBounds i true).getD j true)).length+1=(L.filter (λ j=>!listed.getD j true)).length:=by
 intro L
 induction L with
 | nil=>intro _ h;cases h
 | cons x L ihL=>
  intro hnd hm
  rw[List.nodup_cons]at hnd
  simp only[List.filter_cons]
  by_cases hx:x=i
  ·subst hx
   have e1:(listed.setIfInBounds x true).getD x true=true:=by simp[hil]
   have e2:L.filter (λ j=>!(listed.setIfInBounds x true).getD j true)=L.filter (λ j=>!listed.getD j true):=by
    apply List.filter_congr
    intro y hy
    rw[getD_set_ne true (by rintro rfl;exact hnd.1 hy)]
   simp only[e1,hun,e2];simp
  ·have hm':i ∈ L:=by
    rcases List.mem_cons.1 hm with h | h
    ·exact absurd h.symm hx
    ·exact h
   have h2:=ihL hnd.2 hm'
   rw[getD_set_ne true (Ne.symm hx)]
   split <;> (try simp only[List.length_cons]) <;> omega
def Qfi(n N:Nat):Array Bool:=((List.range N).map (λ i=>decide (i<n))).toArray
def Qgo(ops:List Oper)(n:Nat):Bool:=
 decide (n<ops.length) && Region.sinkB .any ops.toArray n && Region.chainB .any ops.toArray n && Region.seqB .any ops.toArray (ops.length - n) n (Qfi n ops.length)
theorem Qjv{n g:Nat}(hB:Qau ops a0.tmps.size=true)
  (hmono:∀i j v w w',i≠j→Jg vo w0 w→Es sp vo j w w'→Φ i v w→Φ i v w') (hnN:n≤ops.length)
  (hstep:∀(i:Nat) o,i<n→ops[i]?=some o→Qfh P ops a0 w0 sp vo Φ Q n i o)
  (hlate:∀listed,HeadInv .any ops.toArray n listed→(∃i,i<n∧listed.getD i true=false)→Region.ready .any ops.toArray listed≠[]∧∀t ∈ Region.ready .any ops.toArray listed,t<n)
  (hend:∀listed a w,RInv ops a0 w0 sp vo Φ n listed a w→(∀i,i<n→listed.getD i true=true)→wpAny P .any ops.toArray Q g listed a w):
  ∀(fuel:Nat) (listed:Array Bool) (a:Act) (w:World),((List.range n).filter (λ i=>!listed.getD i true)).length=fuel→RInv ops a0 w0 sp vo Φ n listed a w→
   wpAny P .any ops.toArray Q (fuel+g) listed a w:=by
 intro fuel
 induction fuel with
 | zero=>
  intro listed a w hf inv
  rw[Nat.zero_add]
  refine hend listed a w inv λ i hi=>?_
  cases h:listed.getD i true with
  | true=>rfl
  | false=>
   have:i ∈ (List.range n).filter (λ i=>!listed.getD i true):=List.mem_filter.2 ⟨List.mem_range.2 hi,by rw[h];rfl⟩
   rw[List.eq_nil_of_length_eq_zero hf]at this;cases this
 | succ fuel ih=>
  intro listed a w hf inv
  rw[show fuel+1+g=(fuel+g)+1 by omega]
  have hex:∃i,i<n∧listed.getD i true=false:=by
   cases hl:(List.range n).filter (λ i=>!listed.getD i true)with
   | nil=>rw[hl]at hf;cases hf
   | cons x L=>
    have:x ∈ (List.range n).filter (λ i=>!listed.getD i true):=by rw[hl];exact List.mem_cons_self ..
    obtain⟨h1,h2⟩:=List.mem_filter.1 this
    exact⟨x,List.mem_range.1 h1,by simpa using h2⟩
  obtain⟨hne,hlt⟩:=hlate listed inv.head hex
  refine⟨λ hr=>absurd hr hne,λ i hi=>?_⟩
  have hin:=hlt i hi
  obtain⟨hun,o,ho,hall⟩:=mem_ready.1 hi
  have ho':ops[i]?=some o:=by simpa using ho
  have hls:listed.size=ops.length:=by rw[inv.head.size];simp
  have hdep:Qny ops Φ a w o.after.toList:=Qks λ e he hb oj hoj=>by
   have h1:=hall e (by simpa using he) hb
   refine inv.done e.on oj hoj ?_
   have h2:e.on<listed.size:=by
    rcases Nat.lt_or_ge e.on listed.size with h | h
    ·exact h
    ·simp[Array.getElem?_eq_none h]at h1
   simp[h2]at h1 ⊢;exact h1
  have hst:=hstep i o hin ho' a w inv.ext (λ e=>inv.ext0 (by rw[←e];exact hun)) inv.outer hdep;have next:∀v w',Es sp vo i w w'→Φ i (Js o v) w'→wpAny P .any ops.toArray Q (fuel+g) (listed.setIfInBounds i true) (a.put o.dst v) w':=by
   intro v w' he hv
   refine ih _ _ _ ?_ (inv.next hB hmono hi hin ho' he hv)
   have:=Qgn (listed:=listed) (i:=i) (by omega) hun _ List.nodup_range (List.mem_range.2 hin)
   omega
  unfold wpOp
  rw[ho]
  dsimp only
  by_cases hw:Region.wanted o (yielded ops.toArray a.tmps)=true
  ·rw[if_pos hw]at hst ⊢
   left
   refine Oper.wp_mono (λ a' w' h=>?_) hst
   obtain⟨v,rfl,he,hv⟩:=h
   exact next v w' he hv
  ·rw[if_neg hw]at hst ⊢
   refine next undef w (Qm (Zr w)) ?_
   have e:Js o undef=undef:=by unfold Js;cases o.dst <;> rfl
   rw[e];exact hst
end
section
variable {P:Program} {Q:Exit→Act→World→Prop} {a:Act} {w:World} {l:List Oper} {vo:Option Nat} {Φ:Nat→Value→World→Prop}
theorem Qjw{n sp:Nat}(hn:n≤l.length):RInv l a w.drew sp vo Φ n (Array.replicate l.length false) a w.drew:=
 ⟨⟨by simp,λ j oj _ hl=>(by rw[getD_replicate_false]at hl;cases hl),λ t _ ht=>getD_in (by simpa using ht) (getD_replicate_false _ _)⟩,Qan _ _,λ _=>Zr _,⟨rfl,rfl,λ _ _=>rfl⟩,
  λ i o ho hl=>(by
   have hi:=(List.getElem?_eq_some_iff.1 ho).1
   rw[getD_in (by simpa using hi) (getD_replicate_false _ _)]at hl;cases hl)⟩
theorem Qcy(n N:Nat)(h:n≤N):((List.range n).filter (λ i=>!(Array.replicate N false).getD i true)).length=n:=by
 have e:(List.range n).filter (λ i=>!(Array.replicate N false).getD i true)=List.range n:=by
  rw[List.filter_eq_self]
  intro i hi
  have hi':=List.mem_range.1 hi
  rw[getD_in (by simp;omega) (getD_replicate_false _ _)];rfl
 rw[e,List.length_range]
theorem Z9{id:Nat}(sp:Nat)(vo:Option Nat)(Φ:Nat→Value→World→Prop)(hm:P.follows .mixedOrders=true)(hB:Qau l a.tmps.size=true)
  (hmono:∀i j v w1 w',i≠j→Jg vo w.drew w1→Es sp vo j w1 w'→Φ i v w1→Φ i v w')
  (hstep:∀(i:Nat) o,i<l.length→l[i]?=some o→Qfh P l a w.drew sp vo Φ Q l.length i o)
  (hend:∀a' w',Jg vo w.drew w'→Qdg l a l.length a'→Qgm l Φ a' w' 0 l.length→Q .normal a' w'):(Code.region id l.toArray true).wp P Q a w:=by
 refine wp_region_any hm ?_
 have H:=Qjv (P:=P) (ops:=l) (a0:=a) (w0:=w.drew) (sp:=sp) (vo:=vo) (Φ:=Φ) (Q:=Q) (n:=l.length) (g:=0) hB hmono (Nat.le_refl _) hstep
  (λ listed inv ⟨i,hi,hun⟩=>⟨λ hr=>(by
    have:=Qaa (a0:=a) hB (by rw[inv.size];simp) hr i hi
    rw[hun]at this;cases this),λ t ht=>(by
    obtain⟨_,o,ho,_⟩:=mem_ready.1 ht
    have:=(Array.getElem?_eq_some_iff.1 ho).1;simpa using this)⟩)
  (λ listed a' w' inv hall=>⟨(by
    rw[List.eq_nil_iff_forall_not_mem]
    intro i hi
    obtain⟨h1,o,ho,_⟩:=mem_ready.1 hi
    have:=hall i (by have:=(Array.getElem?_eq_some_iff.1 ho).1;simpa using this)
    rw[h1]at this;cases this),hend a' w' inv.ext inv.outer (Qcg _ _ λ j _ h2 o ho=>inv.done j o ho (hall j (by omega)))⟩)
  l.length (Array.replicate l.length false) a w.drew (Qcy _ _ (Nat.le_refl _)) (Qjw (Nat.le_refl _))
 simpa using H
theorem Qes{n N:Nat}{listed:Array Bool}(hs:listed.size=N)(h1:∀i,i<n→listed.getD i true=true)(h2:∀i,n≤i→i<N→listed.getD i true=false)(hn:n≤N):listed=Qfi n N:=by
 apply Array.ext
 ·simp[Qfi,hs]
 ·intro i h3 h4
  have h5:listed.getD i true=listed[i]:=by simp[h3]
  have e:(Qfi n N)[i]=decide (i<n):=by simp[Qfi]
  rw[e,←h5]
  rcases Nat.lt_or_ge i n with h | h
  ·rw[h1 i h];simp[h]
  ·rw[h2 i h (by omega)];simp;omega
theorem Qp{id:Nat}(n:Nat)(sp:Nat)(vo:Option Nat)(Φ:Nat→Value→World→Prop)(hm:P.follows .mixedOrders=true)(hB:Qau l a.tmps.size=true)(hT:Qgo l n=true)
  (hmono:∀i j v w1 w',i≠j→Jg vo w.drew w1→Es sp vo j w1 w'→Φ i v w1→Φ i v w')
  (hstep:∀(i:Nat) o,i<n→l[i]?=some o→Qfh P l a w.drew sp vo Φ Q n i o)
  (hend:∀a' w',Jg vo w.drew w'→Qdg l a n a'→Qgm l Φ a' w' 0 n→wpList P l.toArray Q (l.drop n) a' w'):(Code.region id l.toArray true).wp P Q a w:=by
 unfold Qgo at hT
 simp only[Bool.and_eq_true,decide_eq_true_eq]at hT
 obtain⟨⟨⟨hn,hs⟩,hc⟩,hseq⟩:=hT
 refine wp_region_any hm ?_
 have H:=Qjv (P:=P) (ops:=l) (a0:=a) (w0:=w.drew) (sp:=sp) (vo:=vo) (Φ:=Φ) (Q:=Q) (n:=n) (g:=l.length - n) hB hmono (by omega) hstep
  (λ listed inv ⟨i,hi,hun⟩=>⟨λ hr=>(by
    have:=Qaa (a0:=a) hB (by rw[inv.size];simp) hr i (by omega)
    rw[hun]at this;cases this),λ t ht=>(by
    rcases Nat.lt_or_ge t n with h | h
    ·exact h
    ·exact absurd ht (tail_waits hs hc (by simpa using hn) inv (n - i) i rfl hi hun t h))⟩)
  (λ listed a' w' inv hall=>(by
    have e:=Qes (n:=n) (N:=l.length) (by rw[inv.head.size];simp) hall (λ i h1 h2=>inv.head.tail i h1 (by simpa using h2)) (by omega);have h:=wpAny_of_seq (P:=P) (md:=.any) (Q':=Q) (ops:=l.toArray) (l.drop n) n listed a' w' (λ j=>by simp[List.getElem?_drop]) (by rw[List.length_drop,e];exact hseq)
     (hend a' w' inv.ext inv.outer (Qcg _ _ λ j _ h2 o ho=>inv.done j o ho (hall j (by omega))))
    rwa [List.length_drop]at h))
  n (Array.replicate l.length false) a w.drew (Qcy _ _ (by omega)) (Qjw (by omega))
 rw[show n+(l.length - n)=l.length by omega]at H
 simpa using H
end
theorem Qq(a:Act)(t:Nat):a.eval (.tmp t)=a.tmps[t]?.getD undef:=by show a.tmps.getD t undef=_;rw[Array.getD_eq_getD_getElem?]
theorem QEf (a : Act) (t : Nat) (v : Value) (h : a.eval (.tmp t) = v) : a.tmps[t]?.getD undef = v := (Qq a t).symm.trans h
theorem Qa0{P:Program}{o:Oper}{a:Act}{w:World}{v:Value}{f:FuncId}{args:Array Value}{K:Act→World→Prop}{Q:Exit→Act→World→Prop}(h:(execOp a.eval o).run P w=.ok (.enter f args) w)
  (hc:Calls P f args w (λ e w'=>e=.returned v∧Below w.heap.size w w')) (hK:∀w',Below w.heap.size w w'→K (a.put o.dst v) w'):o.wp P a w K Q:=by
 unfold Oper.wp;rw[h]
 exact hc.mono λ e w' ⟨he,hb⟩=>by subst he;exact hK w' hb
theorem Qet{P:Program}{o:Oper}{a:Act}{w:World}{chain:List PanicEntry}{f:FuncId}{args:Array Value}{K:Act→World→Prop}{Q:Exit→Act→World→Prop}(h:(execOp a.eval o).run P w=.ok (.enter f args) w)
  (hc:Calls P f args w (λ e w'=>e=.panicked chain∧Below w.heap.size w w')) (hK:∀w',Below w.heap.size w w'→Q (.panic chain) a w'):o.wp P a w K Q:=by
 unfold Oper.wp;rw[h]
 exact hc.mono λ e w' ⟨he,hb⟩=>by subst he;exact hK w' hb
theorem Qz{w w':World}(h:Jg none w w'):Below w.heap.size w w':=⟨h.os,h.tape,h.output,h.size,λ i hi=>h.block i hi (by simp)⟩
theorem Qx{w w1:World}(h:Jg none w.drew w1):Below w.heap.size w w1:=Qk (Zd (Below.refl _ _)) (Qz h)
def Qaw(L:List (Value→World→Prop))(i:Nat):Value→World→Prop:=L.getD i (λ _ _=>True)
def Qnz(sp:Nat)(vo:Option Nat):Nat→List (Value→World→Prop)→Prop
 | _,[]=>True
 | i,φ :: r=>((∀v w1 w',Ext w1 w'→φ v w1→φ v w')∧(i≠sp→∀v w1 w',Jg vo w1 w'→φ v w1→φ v w'))∧Qnz sp vo (i+1) r
theorem Qr7{sp:Nat}{vo:Option Nat}:∀{L:List (Value→World→Prop)} {k:Nat},Qnz sp vo k L→∀i v w1 w',
  (Ext w1 w'→L.getD i (λ _ _=>True) v w1→L.getD i (λ _ _=>True) v w')∧(k+i≠sp→Jg vo w1 w'→L.getD i (λ _ _=>True) v w1→L.getD i (λ _ _=>True) v w')
 | [],_,_,_,_,_,_=>by simp
 | φ :: r,k,h,0,v,w1,w'=>⟨h.1.1 v w1 w',λ hn=>h.1.2 hn v w1 w'⟩
 | φ :: r,k,h,i+1,v,w1,w'=>by
  have:=Qr7 (L:=r) h.2 i v w1 w'
  rw[Nat.add_assoc,Nat.add_comm 1 i]at this
  exact this
theorem Zb{sp:Nat}{vo:Option Nat}{w0:World}{L:List (Value→World→Prop)}(h:Qnz sp vo 0 L):∀i j v w1 w',i≠j→Jg vo w0 w1→Es sp vo j w1 w'→Qaw L i v w1→Qaw L i v w':=by
 intro i j v w1 w' hij _ he hp
 have hh:=Qr7 h i v w1 w'
 rw[Nat.zero_add]at hh
 unfold Es at he
 split at he
 ·rename_i hj;exact hh.2 (by rw[←hj];exact hij) he hp
 ·exact hh.1 he hp
theorem Qe{sp:Nat}{vo:Option Nat}{i:Nat}{f:Value→Prop}:(∀v w1 w',Ext w1 w'→(λ v (_:World)=>f v) v w1→(λ v (_:World)=>f v) v w')∧(i≠sp→∀v w1 w',Jg vo w1 w'→(λ v (_:World)=>f v) v w1→(λ v (_:World)=>f v) v w'):=
 ⟨λ _ _ _ _ h=>h,λ _ _ _ _ _ h=>h⟩
def Qh8(P:Program)(ops:List Oper)(a0:Act)(w0:World)(sp:Nat)(vo:Option Nat)(Φ:Nat→Value→World→Prop)(Q:Exit→Act→World→Prop)(hd:Nat):Nat→Nat→List Oper→Prop
 | _,0,_=>True
 | _,_+1,[]=>True
 | i,n+1,o :: r=>Qfh P ops a0 w0 sp vo Φ Q hd i o∧Qh8 P ops a0 w0 sp vo Φ Q hd (i+1) n r
theorem Qjx{P:Program}{ops:List Oper}{a0:Act}{w0:World}{sp:Nat}{vo:Option Nat}{Φ:Nat→Value→World→Prop}{Q:Exit→Act→World→Prop}{hd:Nat}:
  ∀(n k:Nat) (r:List Oper),Qh8 P ops a0 w0 sp vo Φ Q hd k n r→∀(i:Nat) o,i<n→r[i]?=some o→Qfh P ops a0 w0 sp vo Φ Q hd (k+i) o
 | 0,_,_,_,_,_,h,_=>by omega
 | _+1,_,[],_,_,_,_,h=>by simp at h
 | n+1,k,x :: r,h,0,o,_,ho=>by simp at ho;subst ho;exact h.1
 | n+1,k,x :: r,h,i+1,o,hi,ho=>by
  have:=Qjx n (k+1) r h.2 i o (by omega) (by simpa using ho)
  rwa [Nat.add_assoc,Nat.add_comm 1 i]at this
theorem Q6{P:Program}{ops:List Oper}{a0:Act}{w0:World}{sp:Nat}{vo:Option Nat}{Φ:Nat→Value→World→Prop}{Q:Exit→Act→World→Prop}{hd:Nat}(n:Nat)
  (h:Qh8 P ops a0 w0 sp vo Φ Q hd 0 n ops):∀(i:Nat) o,i<n→ops[i]?=some o→Qfh P ops a0 w0 sp vo Φ Q hd i o:=λ i o hi ho=>by
 have:=Qjx n 0 ops h i o hi ho
 rwa [Nat.zero_add]at this
section
variable {P:Program} {ops:List Oper} {a0:Act} {w0:World} {sp:Nat} {vo:Option Nat} {Φ:Nat→Value→World→Prop} {Q:Exit→Act→World→Prop} {hd:Nat} {i:Nat} {o:Oper}
theorem Qo(h:∀a w1,Jg vo w0 w1→(i=sp→Ext w0 w1)→Qdg ops a0 hd a→Qny ops Φ a w1 o.after.toList→
  Region.wanted o (yielded ops.toArray a.tmps)=true∧o.wp P a w1 (λ a' w'=>∃v,a'=a.put o.dst v∧Es sp vo i w1 w'∧Φ i (Js o v) w') Q):Qfh P ops a0 w0 sp vo Φ Q hd i o:=λ a w1 hE hS hO hD=>by
 obtain⟨h1,h2⟩:=h a w1 hE hS hO hD
 rw[if_pos h1];exact h2
theorem Qc{v:Value}(h:∀a w1,Jg vo w0 w1→(i=sp→Ext w0 w1)→Qdg ops a0 hd a→Qny ops Φ a w1 o.after.toList→
  Region.wanted o (yielded ops.toArray a.tmps)=true∧(execOp a.eval o).run P w1=.ok (.value v) w1) (hφ:∀w1,Φ i (Js o v) w1):Qfh P ops a0 w0 sp vo Φ Q hd i o:=λ a w1 hE hS hO hD=>by
 obtain⟨h1,h2⟩:=h a w1 hE hS hO hD
 rw[if_pos h1]
 unfold Oper.wp
 rw[h2]
 exact⟨v,rfl,Qm (Zr w1),hφ w1⟩
theorem Zx(h:∀a w1,Jg vo w0 w1→(i=sp→Ext w0 w1)→Qdg ops a0 hd a→Qny ops Φ a w1 o.after.toList→Region.wanted o (yielded ops.toArray a.tmps)=false)(hφ:∀w1,Φ i undef w1):Qfh P ops a0 w0 sp vo Φ Q hd i o:=λ a w1 hE hS hO hD=>by
 rw[if_neg (by rw[h a w1 hE hS hO hD];exact Bool.false_ne_true)];exact hφ w1
theorem Qqh{ops:Array Oper}{j d:Nat}{oj:Oper}{a:Act}{b:Bool}(hj:ops[j]?=some oj)(hd:oj.dst=some d)(hv:a.eval (.tmp d)=.bool b):yielded ops a.tmps j=some b:=by
 have h:a.tmps.getD d undef=.bool b:=hv
 unfold yielded
 rw[hj]
 simp only[Option.bind_some,hd]
 cases ht:a.tmps[d]? with
 | none=>
  rw[Array.getD_eq_getD_getElem?,ht]at h
  cases h
 | some x=>
  rw[Array.getD_eq_getD_getElem?,ht]at h
  simp at h;subst h;rfl
theorem Qs{l:List Oper}{o oj:Oper}{j d:Nat}{want b:Bool}{a:Act}(hg:o.guard=some (j,want))(hj:l.toArray[j]?=some oj)(hd:oj.dst=some d)(hv:a.eval (.tmp d)=.bool b):
  Region.wanted o (yielded l.toArray a.tmps)=(b == want):=by
 unfold Region.wanted
 rw[hg]
 simp only[Qqh hj hd hv]
 cases b <;> cases want <;> rfl
theorem Ql{a:Act}{ds:List Nat}(hds:X4 (ops.take hd)=ds)(h:Qdg ops a0 hd a)(hB:Qau ops a0.tmps.size=true):a=ds.foldl (λ b d=>b.put (some d) (a.eval (.tmp d))) a0:=by
 subst hds
 have hdl:∀d ∈ X4 (ops.take hd),d<a0.tmps.size:=by
  unfold Qau at hB;simp only[Bool.and_eq_true]at hB
  intro d hdd
  obtain⟨o,ho,hd'⟩:=List.mem_filterMap.1 hdd
  simpa using List.all_eq_true.1 hB.2 d (List.mem_filterMap.2 ⟨o,List.mem_of_mem_take ho,hd'⟩)
 obtain⟨h1,h2,h3⟩:=h
 have gen:∀(ds:List Nat) (b:Act),b.defers=a.defers→b.tmps.size=a.tmps.size→(∀d ∈ ds,d<b.tmps.size)→
   (ds.foldl (λ b d=>b.put (some d) (a.eval (.tmp d))) b).defers=a.defers∧(ds.foldl (λ b d=>b.put (some d) (a.eval (.tmp d))) b).tmps.size=a.tmps.size∧
   ∀t,(ds.foldl (λ b d=>b.put (some d) (a.eval (.tmp d))) b).eval (.tmp t)=if ds.contains t then a.eval (.tmp t)else b.eval (.tmp t):=by
  intro ds
  induction ds with
  | nil=>intro b hb1 hb2 _;exact⟨hb1,hb2,λ t=>by simp⟩
  | cons d ds ih=>
   intro b hb1 hb2 hb3
   obtain⟨i1,i2,i3⟩:=ih (b.put (some d) (a.eval (.tmp d))) hb1 (by simp[Act.put,hb2]) (λ d' hd'=>by simp[Act.put];exact hb3 d' (List.mem_cons_of_mem _ hd'))
   refine⟨i1,i2,λ t=>?_⟩
   rw[List.foldl_cons,i3 t]
   by_cases ht:ds.contains t=true
   ·simp at ht;simp[ht]
   ·by_cases htd:t=d
    ·subst htd
     rw[J1 (hb3 t (List.mem_cons_self ..))];simp
    ·rw[Je htd]
     simp at ht;simp[ht,htd]
 obtain⟨g1,g2,g3⟩:=gen (X4 (ops.take hd)) a0 h1.symm h2.symm hdl
 have ext:∀(x y:Act),x.defers=y.defers→x.tmps.size=y.tmps.size→(∀t,x.eval (.tmp t)=y.eval (.tmp t))→x=y:=by
  intro x y e1 e2 e3
  obtain⟨xt,xd⟩:=x
  obtain⟨yt,yd⟩:=y
  simp only at e1 e2
  subst e1
  have:xt=yt:=by
   apply Array.ext e2
   intro k hk1 hk2
   have h:xt.getD k undef=yt.getD k undef:=e3 k
   simpa [Array.getD_eq_getD_getElem?,hk1,hk2] using h
  rw[this]
 refine ext _ _ g1.symm g2.symm λ t=>?_
 rw[g3 t]
 cases hc:(X4 (ops.take hd)).contains t with
 | true=>simp
 | false=>simp only[Bool.false_eq_true,if_false];exact h3 t hc
end
theorem Qn0(a b:Nat)(ha:a<18446744073709551616)(hb:b<18446744073709551616):bits BinOp.or IntKind.u64 (a:Int) (b:Int)=((a ||| b:Nat):Int):=by
 have h:(a ||| b:Nat)<2 ^ 64:=Nat.or_lt_two_pow (by omega) (by omega)
 unfold bits
 show IntKind.u64.wrap (((BitVec.ofInt 64 (a:Int) ||| BitVec.ofInt 64 (b:Int)).toNat:Nat):Int)=_
 rw[BitVec.toNat_or,BitVec.toNat_ofInt,BitVec.toNat_ofInt]
 have e1:((a:Int) % ((2 ^ 64:Nat):Int)).toNat=a:=by omega
 have e2:((b:Int) % ((2 ^ 64:Nat):Int)).toNat=b:=by omega
 rw[e1,e2]
 exact IntWalk.u64_in _ ⟨by omega,by omega⟩
theorem Qxk(x c:Int)(h0:0≤x)(h1:x≤72057594037927935)(c0:0≤c)(c1:c≤255):bits BinOp.or IntKind.u64 (x * 256) c=x * 256+c:=by
 obtain⟨a,rfl⟩:=Int.eq_ofNat_of_zero_le h0
 obtain⟨b,rfl⟩:=Int.eq_ofNat_of_zero_le c0
 have e:((a:Int) * 256)=((a * 256:Nat):Int):=by omega
 rw[e,Qn0 _ _ (by omega) (by omega)]
 have h:a * 256 ||| b=a * 256+b:=by
  have:=Nat.shiftLeft_add_eq_or_of_lt (by omega:b<2 ^ 8) a
  rw[Nat.shiftLeft_eq]at this
  exact this.symm
 rw[h];omega
structure URow where
 lo:Int
 hi:Int
 size:Int
 least:Int
def URow.cells(r:URow):List Value:=[.int .u8 r.lo,.int .u8 r.hi,.int .i64 r.size,.int .u64 r.least]
def URow.zero:URow:=⟨0,0,0,0⟩
def Ja(l:List URow)(i:Nat):URow:=l.getD i URow.zero
theorem Qeu(l:List URow)(i:Nat)(h:i<l.length):Ja l i=l[i]:=by unfold Ja;rw[List.getD_eq_getElem?_getD,List.getElem?_eq_getElem h];rfl
structure URowAt(w:World)(b o:Nat)(r:URow):Prop where
 c0:w.cell? ⟨b,o,none⟩=some (.int .u8 r.lo)
 c1:w.cell? ⟨b,o+1,none⟩=some (.int .u8 r.hi)
 c2:w.cell? ⟨b,o+2,none⟩=some (.int .i64 r.size)
 c3:w.cell? ⟨b,o+3,none⟩=some (.int .u64 r.least)
theorem URowAt.below{w w':World}{b o:Nat}{r:URow}(h:URowAt w b o r)(hb:Below w.heap.size w w'):URowAt w' b o r:=by
 have hl:=Qw h.c0;have e:∀q,w'.cell? ⟨b,q,none⟩=w.cell? ⟨b,q,none⟩:=λ q=>hb.cell (p:=⟨b,q,none⟩) hl
 obtain⟨c0,c1,c2,c3⟩:=h
 constructor <;> (rw[e];assumption)
def URows(w:World)(a:Option Addr)(l:List URow):Prop:=∀i,i<len l→∃b off,a=some ⟨b,off,none⟩∧URowAt w b (off+i * 4) (Ja l i)
theorem URows.below{w w':World}{a:Option Addr}{l:List URow}(h:URows w a l)(hb:Below w.heap.size w w'):URows w' a l:=λ i hi=>by
 obtain⟨b,off,rfl,hc⟩:=h i hi
 exact⟨b,off,rfl,hc.below hb⟩
def Qai(s:ByteArray)(i:Nat):Int:=(s.data.toList.getD i 0).toNat
theorem Qev(s:ByteArray)(i:Nat):0≤Qai s i∧Qai s i≤255:=by unfold Qai;have:=UInt8.toNat_lt (s.data.toList.getD i 0);omega
theorem Qo5(s:ByteArray){q:Nat}(h:1+q≤s.size):(s.extract 1 (1+q)).size=q:=by simp[ByteArray.size_extract];omega
theorem Qo6(s:ByteArray){q j:Nat}(h:1+q≤s.size)(hj:j<q):Qai (s.extract 1 (1+q)) j=Qai s (1+j):=by
 unfold Qai
 rw[Lib.extract_data,List.getD_eq_getElem?_getD,List.getD_eq_getElem?_getD,List.getElem?_take,if_pos (by omega),List.getElem?_drop]
theorem Qjy(w:World)(s:ByteArray):∃cap w',(convert 9 106 (.string s)).run Tryz.prog w=.ok (.slice (some ⟨w.heap.size,0,none⟩) s.size cap) w'∧Below w.heap.size w w'∧w'.heap.size=w.heap.size+1∧∀j,j<s.size→w'.cell? ⟨w.heap.size,j,none⟩=some (.int .u8 (Qai s j)):=by
 have h:Below w.heap.size w (w.drew.alloc (.cells (Lib.bytesCells w 5 s) 5)):=((Below.refl _ _).drew).alloc (by simp) _
 exact⟨_,_,Lib.run_convert_string_bytes w 9 106 5 s Tryz.underlying9 Tryz.underlying106 Tryz.underlying5,⟨h.os,h.tape,h.output,by rw[Lib.bytesWorld_size];omega,λ i hi=>Lib.bytesWorld_at_old _ _ _ _ hi⟩,Lib.bytesWorld_size _ _ _,λ j hj=>Lib.bytesWorld_cell w _ s j hj⟩
def Qgp(k:Int):List PanicEntry:=[{ v:=.iface 30 (.int .i64 k),recovered:=false }]
theorem Qbk(k:Int)(w:World):Calls Tryz.prog 245 #[.int .i64 k] w λ e w'=>e=.panicked (Qgp k)∧w'=w:=by
 go_enter Tryz.func245,Tryz.ntmps245
 go_wp2
 exact⟨rfl,rfl,rfl⟩
def be(s:ByteArray):Nat→Int
 | 0=>0
 | k+1=>be s k * 256+Qai s (1+k)
def Xa(s:ByteArray)(rows:List URow):Except Int (Int × ByteArray):=
 if s.size=0 then .error 4
 else match rows.find? (λ r=>decide (r.lo≤Qai s 0) && decide (Qai s 0≤r.hi))with
  | none=>.error 5
  | some r=>
   if(s.size:Int)<1+r.size then .error 4
   else if(if r.size=0 then Qai s 0 - r.lo else be s r.size.toNat)<r.least then .error 5
   else .ok (if r.size=0 then Qai s 0 - r.lo else be s r.size.toNat,s.extract (1+r.size.toNat) s.size)
structure URow.Ok(r:URow):Prop where
 lo0:0≤r.lo
 hi1:r.hi≤255
 sz0:0≤r.size
 sz1:r.size≤8
 le0:0≤r.least
 le1:r.least≤4294967296
def Qo7(res:Except Int (Int × ByteArray))(w:World)(e:Ending)(w':World):Prop:=
 Below w.heap.size w w'∧match res with
  | .ok x=>e=.returned (.agg #[.int .u64 x.1,.string x.2])
  | .error k=>e=.panicked (Qgp k)
theorem Qdl{n:Int}{rest:ByteArray}{w w':World}{e:Ending}(h:Qo7 (.ok (n,rest)) w e w'):e=.returned (.agg #[.int .u64 n,.string rest])∧Below w.heap.size w w':=⟨h.2,h.1⟩
theorem Qch{k:Int}{w w':World}{e:Ending}(h:Qo7 (.error k) w e w'):e=.panicked (Qgp k)∧Below w.heap.size w w':=⟨h.2,h.1⟩
theorem Qz6(s:ByteArray)(h:0<s.size):(s[0].toNat:Int)=Qai s 0:=by
 unfold Qai
 rw[List.getD_eq_getElem?_getD,List.getElem?_eq_getElem (by simpa using h)];rfl
theorem Qr8{s:ByteArray}{l:List URow}{k:Nat}(hk:k<len l)(hn:∀j,j<k→¬((Ja l j).lo≤Qai s 0∧Qai s 0≤(Ja l j).hi))(hy:(Ja l k).lo≤Qai s 0∧Qai s 0≤(Ja l k).hi):
  l.find? (λ r=>decide (r.lo≤Qai s 0) && decide (Qai s 0≤r.hi))=some (Ja l k):=by
 rw[Qeu l k hk]at hy ⊢
 rw[List.find?_eq_some_iff_getElem]
 refine⟨by simp[hy],k,hk,rfl,λ j hj=>?_⟩
 have hjl:j<l.length:=Nat.lt_trans hj hk;have:=hn j hj
 rw[Qeu l j hjl]at this
 simp only[Bool.not_eq_true',Bool.and_eq_false_iff,decide_eq_false_iff_not]
 by_cases h:l[j].lo≤Qai s 0
 ·exact .inr λ h2=>this ⟨h,h2⟩
 ·exact .inl h
theorem Ql1{s:ByteArray}{l:List URow}(hs:0<s.size)(hn:∀j,j<len l→¬((Ja l j).lo≤Qai s 0∧Qai s 0≤(Ja l j).hi)):Xa s l=.error 5:=by
 unfold Xa
 rw[if_neg (by omega)]
 have:l.find? (λ r=>decide (r.lo≤Qai s 0) && decide (Qai s 0≤r.hi))=none:=by
  rw[List.find?_eq_none]
  intro x hx
  obtain⟨j,hj,rfl⟩:=List.getElem_of_mem hx
  have:=hn j hj
  rw[Qeu l j hj]at this
  simp only[Bool.and_eq_true,decide_eq_true_eq,not_and]
  exact λ h h2=>this ⟨h,h2⟩
 rw[this]
theorem Qo8{s:ByteArray}{l:List URow}{r:URow}(hs:0<s.size)(h:l.find? (λ r=>decide (r.lo≤Qai s 0) && decide (Qai s 0≤r.hi))=some r):
  Xa s l=if(s.size:Int)<1+r.size then .error 4
   else if(if r.size=0 then Qai s 0 - r.lo else be s r.size.toNat)<r.least then .error 5
   else .ok (if r.size=0 then Qai s 0 - r.lo else be s r.size.toNat,s.extract (1+r.size.toNat) s.size):=by
 unfold Xa
 rw[if_neg (by omega),h]
def J8(s:ByteArray)(r:URow)(j:Nat):Int:=if r.size=0 then Qai s 0 - r.lo else be s j
theorem Qx6(s:ByteArray):∀j,0≤be s j∧be s j<256 ^ j
 | 0=>⟨by simp[be],by simp[be]⟩
 | j+1=>by
  have:=Qx6 s j;have:=Qev s (1+j)
  rw[be,Int.pow_succ]
  omega
theorem Qhm{s:ByteArray}{r:URow}{j:Nat}(hj:(j:Int)≤8)(h:r.Ok)(hlo:r.lo≤Qai s 0):0≤J8 s r j∧J8 s r j≤18446744073709551615:=by
 unfold J8
 have hb:=Qev s 0;have hl:=h.lo0
 split
 ·omega
 ·have h1:=Qx6 s j
  have h2:(256:Int) ^ j≤256 ^ 8:=by
   obtain⟨d,hd⟩:∃d,8=j+d:=⟨8 - j,by omega⟩
   rw[hd,Int.pow_add]
   have h3:(0:Int)<256 ^ j:=Int.pow_pos (by decide);have h4:(0:Int)<256 ^ d:=Int.pow_pos (by decide);have h5:=Int.mul_le_mul_of_nonneg_left (show(1:Int)≤256 ^ d by omega) (Int.le_of_lt h3)
   rw[Int.mul_one]at h5;exact h5
  have h5:(256:Int) ^ 8=18446744073709551616:=by decide
  omega
theorem Qkt{s:ByteArray}{r:URow}{j:Nat}(hj:j≤7)(h:r.Ok)(hlo:r.lo≤Qai s 0):J8 s r j≤72057594037927935:=by
 unfold J8
 have hb:=Qev s 0;have hl:=h.lo0
 split
 ·omega
 ·have h1:=Qx6 s j
  have h2:(256:Int) ^ j≤256 ^ 7:=by
   obtain⟨d,hd⟩:∃d,7=j+d:=⟨7 - j,by omega⟩
   rw[hd,Int.pow_add]
   have h3:(0:Int)<256 ^ j:=Int.pow_pos (by decide);have h4:(0:Int)<256 ^ d:=Int.pow_pos (by decide);have h5:=Int.mul_le_mul_of_nonneg_left (show(1:Int)≤256 ^ d by omega) (Int.le_of_lt h3)
   rw[Int.mul_one]at h5;exact h5
  have h5:(256:Int) ^ 7=72057594037927936:=by decide
  omega
theorem Qgq(s:ByteArray)(r:URow)(j:Nat)(h:r.size≠0):J8 s r (j+1)=J8 s r j * 256+Qai s (1+j):=by
 unfold J8;rw[if_neg h,if_neg h];rfl
theorem Qhn(s:ByteArray)(a:Option Addr)(cap:Nat)(l:List URow)(w:World)(hs:s.size≤9223372036854775807)(hl0:0<len l)(hl:len l≤100)(hc:URows w a l)(hok:∀i,(Ja l i).Ok):
  Calls Tryz.prog 224 #[.string s,.slice a (len l) cap] w (Qo7 (Xa s l) w):=by
 have HC:=QLh hc;have HO:=QLh hok;clear hc hok
 by_cases h0:s.size=0
 ·have he:s.toList.isEmpty=true:=by rw[ByteArray.toList_eq];cases s with | mk d=>simp_all [ByteArray.size]
  have E:Hid (Xa s l=.error 4):=QLh (by unfold Xa;rw[if_pos h0]);clear h0
  go_enter Tryz.func224,Tryz.ntmps224
  go_wp2
  go_step3
  go_wp2_with fail
  refine(Qbk 4 _).mono ?_
  rintro e w1 ⟨rfl,rfl⟩
  go_wp2
  rw[E.out]
  exact⟨rfl,by(repeat (first | exact Below.refl _ _ | assumption | (refine Zd ?_) | (refine Zc ?_ _) | (refine Qh ?_ _) | (refine Zs ?_ (by first | omega | (simp;done) | (simp;omega)) _) | (refine Qk ?_ (by assumption)))),rfl⟩
 have he:s.toList.isEmpty=false:=by rw[ByteArray.toList_eq];cases s with | mk d=>simp_all [ByteArray.size]
 have hs0:0<s.size:=by omega
 clear h0
 go_enter Tryz.func224,Tryz.ntmps224
 go_wp2
 go_step3
 go_wp2
 go_step3
 go_wp2
 go_loopw [16] (λ i wr=>∃k:Nat,k<len l∧i=.int .i64 k∧Below w.heap.size w wr∧Hid (∀j,j<k→¬((Ja l j).lo≤Qai s 0∧Qai s 0≤(Ja l j).hi))∧
  Hid (wr.heap[w.heap.size]?=some (.cells #[.int .u64 0,.string ⟨#[]⟩] 311 (0,0)))∧Hid (wr.heap[w.heap.size+1]?=some (.cells #[.int .u8 0,.int .u8 0,.int .i64 0,.int .u64 0] 338 (0,0)))) (λ i _=>len l - (intOf i).toNat)
 case atStart=>exact⟨0,hl0,rfl,(by(repeat (first | exact Below.refl _ _ | assumption | (refine Zd ?_) | (refine Zc ?_ _) | (refine Qh ?_ _) | (refine Zs ?_ (by first | omega | (simp;done) | (simp;omega)) _) | (refine Qk ?_ (by assumption))))),λ j hj=>absurd hj (by omega),(by(repeat (first | exact Qi _ (by repeat (first | rfl | refine Z1 _ ?_)) | refine Qf ?_ _))),(by(repeat (first | exact Qi _ (by repeat (first | rfl | refine Z1 _ ?_)) | refine Qf ?_ _)))⟩
 case round=>
  obtain⟨k,hk,rfl,hd,hn,hB0,hB1⟩:=hrel
  have hlt:=hk
  obtain⟨b,off,rfl,⟨c0,c1,c2,c3⟩⟩:=HC.out.below hd k hlt
  have b0:(k:Int)<len l:=by omega
  have b1:k<len l:=by omega
  obtain⟨z,hz⟩:∃z,z=Qai s 0:=⟨_,rfl⟩
  have hz':(s[0].toNat:Int)=z:=by rw[hz];exact Qz6 s hs0
  have o1:=HO.out k;have z0:0≤z:=by rw[hz];unfold Qai;omega
  have z1:z≤255:=by rw[hz];unfold Qai;have:=UInt8.toNat_lt (s.data.toList.getD 0 0);omega
  have HZ:=QLh hz;have sz:w.heap.size+1<wr.heap.size:=lt_of_block hB1.out
  go_wp2_with fail
  obtain⟨W,hW⟩:∃W,wr.alloc (.cells #[.int .u8 (Ja l k).lo,.int .u8 (Ja l k).hi,.int .i64 (Ja l k).size,.int .u64 (Ja l k).least] 338)=W:=⟨_,rfl⟩
  have HB0:=QLh (Qf hB0.out (.cells #[.int .u8 (Ja l k).lo,.int .u8 (Ja l k).hi,.int .i64 (Ja l k).size,.int .u64 (Ja l k).least] 338));have HB1:=QLh (Qf hB1.out (.cells #[.int .u8 (Ja l k).lo,.int .u8 (Ja l k).hi,.int .i64 (Ja l k).size,.int .u64 (Ja l k).least] 338));have HBN:=QLh (heap_alloc_new wr (.cells #[.int .u8 (Ja l k).lo,.int .u8 (Ja l k).hi,.int .i64 (Ja l k).size,.int .u64 (Ja l k).least] 338));have HD:=QLh (Qh hd (.cells #[.int .u8 (Ja l k).lo,.int .u8 (Ja l k).hi,.int .i64 (Ja l k).size,.int .u64 (Ja l k).least] 338))
  rw[hW]at HB0 HB1 HBN HD ⊢
  have q0:W.cell? ⟨wr.heap.size,0,none⟩=some (.int .u8 (Ja l k).lo):=Qa HBN.out 0;have q1:W.cell? ⟨wr.heap.size,1,none⟩=some (.int .u8 (Ja l k).hi):=Qa HBN.out 1;clear hW hd hz hB0 hB1 c0 c1 c2 c3
  by_cases m1:(Ja l k).lo≤z
  ·have M1:decide ((Ja l k).lo≤z)=true:=by simpa using m1
   by_cases m2:z≤(Ja l k).hi
   ·obtain⟨x2,hx2⟩:∃x2,x2=true:=⟨_,rfl⟩
    have M2:decide (z≤(Ja l k).hi)=x2:=by rw[hx2];simpa using m2
    refine Z9 1000 (none) (Qaw [λ u _=>u=(.string s),λ u _=>u=(.int .u8 z),λ u _=>u=(pt wr.heap.size 0),λ u _=>u=(.int .u8 (Ja l k).lo),λ u _=>u=(.bool true),λ u _=>u=(.bool true),λ u _=>u=(.string s),λ u _=>u=(.int .u8 z),λ u _=>u=(pt wr.heap.size 1),λ u _=>u=(.int .u8 (Ja l k).hi),λ u _=>u=(.bool x2),λ u _=>u=(.bool x2),λ u _=>u=(.bool x2)]) rfl (by kernel_rfl) (Zb ⟨Qe,Qe,Qe,Qe,Qe,Qe,Qe,Qe,Qe,Qe,Qe,Qe,Qe,trivial⟩) (Q6 13 ⟨?s0,?s1,?s2,?s3,?s4,?s5,?s6,?s7,?s8,?s9,?s10,?s11,?s12,trivial⟩) ?_
    case s0=>
     refine Qc (v:=(.string s)) (λ av wv hE hS hO hD=>?_) (λ _=>rfl)
     have f0:=QEf av 0 (.string s) (hO.2.2 0 rfl)
     refine⟨rfl,?_⟩
     simp[go_sem,f0,hz',hs0,M1,M2]
    case s1=>
     refine Qc (v:=(.int .u8 z)) (λ av wv hE hS hO hD=>?_) (λ _=>rfl)
     have f22:=QEf av 22 (.string s) (hD.1 rfl _ rfl)
     refine⟨rfl,?_⟩
     simp[go_sem,f22,hz',hs0,M1,M2]
    case s2=>
     refine Qc (v:=(pt wr.heap.size 0)) (λ av wv hE hS hO hD=>?_) (λ _=>rfl)
     have f7:=QEf av 7 (pt wr.heap.size 0) (hO.2.2 7 rfl)
     refine⟨rfl,?_⟩
     simp[go_sem,f7,hz',hs0,M1,M2]
    case s3=>
     refine Qc (v:=(.int .u8 (Ja l k).lo)) (λ av wv hE hS hO hD=>?_) (λ _=>rfl)
     have f24:=QEf av 24 (pt wr.heap.size 0) (hD.1 rfl _ rfl);have q0:=Qd hE (by simp) q0;have q1:=Qd hE (by simp) q1
     refine⟨rfl,?_⟩
     simp[go_sem,f24,q0,q1,hz',hs0,M1,M2]
    case s4=>
     refine Qc (v:=(.bool true)) (λ av wv hE hS hO hD=>?_) (λ _=>rfl)
     have f23:=QEf av 23 (.int .u8 z) (hD.1 rfl _ rfl);have f25:=QEf av 25 (.int .u8 (Ja l k).lo) (hD.2.1 rfl _ rfl)
     refine⟨rfl,?_⟩
     simp[go_sem,f23,f25,hz',hs0,M1,M2]
    case s5=>
     refine Qc (v:=(.bool true)) (λ av wv hE hS hO hD=>?_) (λ _=>rfl)
     have f26:=QEf av 26 (.bool true) (hD.1 rfl _ rfl)
     refine⟨rfl,?_⟩
     simp[go_sem,f26,hz',hs0,M1,M2]
    case s6=>
     refine Qc (v:=(.string s)) (λ av wv hE hS hO hD=>?_) (λ _=>rfl)
     have f0:=QEf av 0 (.string s) (hO.2.2 0 rfl);have d27:av.eval (.tmp 27)=(.bool true):=hD.1 rfl _ rfl;have f27:=(Qq av 27).symm.trans d27
     refine⟨(Qs (d:=27) (b:=true) (want:=true) rfl rfl rfl d27),?_⟩
     simp[go_sem,f0,f27,hz',hs0,M1,M2]
    case s7=>
     refine Qc (v:=(.int .u8 z)) (λ av wv hE hS hO hD=>?_) (λ _=>rfl)
     have f28:=QEf av 28 (.string s) (hD.1 rfl _ rfl);have d27:av.eval (.tmp 27)=(.bool true):=hD.2.1 rfl _ rfl;have f27:=(Qq av 27).symm.trans d27
     refine⟨(Qs (d:=27) (b:=true) (want:=true) rfl rfl rfl d27),?_⟩
     simp[go_sem,f28,f27,hz',hs0,M1,M2]
    case s8=>
     refine Qc (v:=(pt wr.heap.size 1)) (λ av wv hE hS hO hD=>?_) (λ _=>rfl)
     have f7:=QEf av 7 (pt wr.heap.size 0) (hO.2.2 7 rfl);have d27:av.eval (.tmp 27)=(.bool true):=hD.1 rfl _ rfl;have f27:=(Qq av 27).symm.trans d27
     refine⟨(Qs (d:=27) (b:=true) (want:=true) rfl rfl rfl d27),?_⟩
     simp[go_sem,f7,f27,hz',hs0,M1,M2]
    case s9=>
     refine Qc (v:=(.int .u8 (Ja l k).hi)) (λ av wv hE hS hO hD=>?_) (λ _=>rfl)
     have f30:=QEf av 30 (pt wr.heap.size 1) (hD.1 rfl _ rfl);have d27:av.eval (.tmp 27)=(.bool true):=hD.2.1 rfl _ rfl;have f27:=(Qq av 27).symm.trans d27;have q0:=Qd hE (by simp) q0;have q1:=Qd hE (by simp) q1
     refine⟨(Qs (d:=27) (b:=true) (want:=true) rfl rfl rfl d27),?_⟩
     simp[go_sem,f30,f27,q0,q1,hz',hs0,M1,M2]
    case s10=>
     refine Qc (v:=(.bool x2)) (λ av wv hE hS hO hD=>?_) (λ _=>rfl)
     have f29:=QEf av 29 (.int .u8 z) (hD.1 rfl _ rfl);have f31:=QEf av 31 (.int .u8 (Ja l k).hi) (hD.2.1 rfl _ rfl);have d27:av.eval (.tmp 27)=(.bool true):=hD.2.2.1 rfl _ rfl;have f27:=(Qq av 27).symm.trans d27
     refine⟨(Qs (d:=27) (b:=true) (want:=true) rfl rfl rfl d27),?_⟩
     simp[go_sem,f29,f31,f27,hz',hs0,M1,M2]
    case s11=>
     refine Qc (v:=(.bool x2)) (λ av wv hE hS hO hD=>?_) (λ _=>rfl)
     have f27:=QEf av 27 (.bool true) (hD.1 rfl _ rfl);have f32:=QEf av 32 (.bool x2) (hD.2.1 rfl _ rfl)
     refine⟨rfl,?_⟩
     simp[go_sem,f27,f32,hz',hs0,M1,M2]
    case s12=>
     refine Qc (v:=(.bool x2)) (λ av wv hE hS hO hD=>?_) (λ _=>rfl)
     have f33:=QEf av 33 (.bool x2) (hD.1 rfl _ rfl)
     refine⟨rfl,?_⟩
     simp[go_sem,f33,hz',hs0,M1,M2]
    intro a' w' hE hO hall
    have hA:=Ql (ds:=[22,23,24,25,26,27,28,29,30,31,32,33,21]) rfl hO (by kernel_rfl);have e22:a'.eval (.tmp 22)=(.string s):=hall.1 _ rfl;have e23:a'.eval (.tmp 23)=(.int .u8 z):=hall.2.1 _ rfl;have e24:a'.eval (.tmp 24)=(pt wr.heap.size 0):=hall.2.2.1 _ rfl;have e25:a'.eval (.tmp 25)=(.int .u8 (Ja l k).lo):=hall.2.2.2.1 _ rfl;have e26:a'.eval (.tmp 26)=(.bool true):=hall.2.2.2.2.1 _ rfl;have e27:a'.eval (.tmp 27)=(.bool true):=hall.2.2.2.2.2.1 _ rfl;have e28:a'.eval (.tmp 28)=(.string s):=hall.2.2.2.2.2.2.1 _ rfl;have e29:a'.eval (.tmp 29)=(.int .u8 z):=hall.2.2.2.2.2.2.2.1 _ rfl;have e30:a'.eval (.tmp 30)=(pt wr.heap.size 1):=hall.2.2.2.2.2.2.2.2.1 _ rfl;have e31:a'.eval (.tmp 31)=(.int .u8 (Ja l k).hi):=hall.2.2.2.2.2.2.2.2.2.1 _ rfl;have e32:a'.eval (.tmp 32)=(.bool x2):=hall.2.2.2.2.2.2.2.2.2.2.1 _ rfl;have e33:a'.eval (.tmp 33)=(.bool x2):=hall.2.2.2.2.2.2.2.2.2.2.2.1 _ rfl;have e21:a'.eval (.tmp 21)=(.bool x2):=hall.2.2.2.2.2.2.2.2.2.2.2.2.1 _ rfl
    simp only[List.foldl_cons,List.foldl_nil,Act.put,List.setIfInBounds_toArray,List.set_cons_succ,List.set_cons_zero,e22,e23,e24,e25,e26,e27,e28,e29,e30,e31,e32,e33,e21]at hA
    clear hO hall e22 e23 e24 e25 e26 e27 e28 e29 e30 e31 e32 e33 e21
    subst hA
    have F:Hid (l.find? (λ r=>decide (r.lo≤Qai s 0) && decide (Qai s 0≤r.hi))=some (Ja l k)):=QLh (Qr8 b1 hn.out (by rw[←HZ.out];exact⟨m1,m2⟩))
    subst hx2
    have B7:=QLh (Qk HD.out (Qx hE));have X0:=QLh (Qn hE (by simp) HB0.out);have X1:=QLh (Qn hE (by simp) HB1.out);have XN:=QLh (Qn hE (by simp) HBN.out);clear hE hn M1 M2 m2 q0 q1
    obtain⟨r,hr⟩:∃r,Ja l k=r:=⟨_,rfl⟩
    rw[hr]at XN F o1 m1
    have FR:=QLh (Qo8 hs0 F.out);have p0:w'.cell? ⟨wr.heap.size,0,none⟩=some (.int .u8 r.lo):=Qa XN.out 0;have p1:w'.cell? ⟨wr.heap.size,1,none⟩=some (.int .u8 r.hi):=Qa XN.out 1;have p2:w'.cell? ⟨wr.heap.size,2,none⟩=some (.int .i64 r.size):=Qa XN.out 2;have p3:w'.cell? ⟨wr.heap.size,3,none⟩=some (.int .u64 r.least):=Qa XN.out 3;have x0:=Qa X1.out;have x1:=Qj X1.out;clear hr
    go_upto_region 12 with fail
    obtain⟨V,hV⟩:∃V,(((w'.setCell ⟨w.heap.size+1,0,none⟩ (.int .u8 r.lo)).setCell ⟨w.heap.size+1,1,none⟩ (.int .u8 r.hi)).setCell ⟨w.heap.size+1,2,none⟩ (.int .i64 r.size)).setCell ⟨w.heap.size+1,3,none⟩ (.int .u64 r.least)=V:=⟨_,rfl⟩
    have VB:Hid (Below w.heap.size w V):=QLh (by rw[←hV];exact Zs (Zs (Zs (Zs B7.out (by simp) _) (by simp) _) (by simp) _) (by simp) _);have V0:Hid (V.heap[w.heap.size]?=some (.cells #[.int .u64 0,.string ⟨#[]⟩] 311 (0,0))):=QLh (by
     rw[←hV];exact Qg (Qg (Qg (Qg X0.out (by simp) _) (by simp) _) (by simp) _) (by simp) _)
    have V1:V.heap[w.heap.size+1]?=some (.cells #[.int .u8 r.lo,.int .u8 r.hi,.int .i64 r.size,.int .u64 r.least] 338 (0,0)):=by
     rw[←hV];exact Qb (Qb (Qb (Qb X1.out _) _) _) _
    rw[hV]
    have v0:V.cell? ⟨w.heap.size+1,0,none⟩=some (.int .u8 r.lo):=Qa V1 0;have v2:V.cell? ⟨w.heap.size+1,2,none⟩=some (.int .i64 r.size):=Qa V1 2;have v3:V.cell? ⟨w.heap.size+1,3,none⟩=some (.int .u64 r.least):=Qa V1 3;have HV1:=QLh V1;clear hV V1 p0 p1 p2 p3 x0 x1 HB0 HB1 HBN X0 X1 XN B7 HD HC hlt b0 b1 hk;have k1:=o1.sz0;have k2:=o1.sz1;have k3:=o1.lo0;have i1:IntKind.i64.wrap (1+r.size)=1+r.size:=IntWalk.i64_in _ (by omega)
    by_cases c1:(s.size:Int)<1+r.size
    ·have E:Hid (Xa s l=.error 4):=QLh (by rw[FR.out,if_pos c1])
     go_wp2_with fail
     refine(Qbk 4 _).mono ?_
     rintro e w1 ⟨rfl,rfl⟩
     go_wp2
     rw[E.out]
     exact⟨rfl,VB.out,rfl⟩
    ·have i2:IntKind.u8.wrap (z - r.lo)=z - r.lo:=IntWalk.u8_in _ (by omega)
     have i3:IntKind.u64.wrap (z - r.lo)=z - r.lo:=IntWalk.u64_in _ (by omega)
     obtain⟨q,hq⟩:∃q:Nat,r.size=q:=⟨r.size.toNat,by omega⟩
     by_cases c2:r.size=0
     ·have c2':(r.size == 0)=true:=by simpa using c2
      have HQ:=QLh hq;have C2:=QLh c2;clear hq c2
      go_upto_region 16 with fail
      refine Z9 1000 (none) (Qaw [λ u _=>u=(.string s),λ u _=>u=(.int .u8 z),λ u _=>u=(pt (w.heap.size+1) 0),λ u _=>u=(.int .u8 r.lo),λ u _=>u=(.int .u8 (z - r.lo)),λ u _=>u=(.int .u64 (z - r.lo)),λ u _=>u=(.int .u64 (z - r.lo))]) rfl (by kernel_rfl) (Zb ⟨Qe,Qe,Qe,Qe,Qe,Qe,Qe,trivial⟩) (Q6 7 ⟨?s0,?s1,?s2,?s3,?s4,?s5,?s6,trivial⟩) ?_
      case s0=>
       refine Qc (v:=(.string s)) (λ av wv hE hS hO hD=>?_) (λ _=>rfl)
       have f0:=QEf av 0 (.string s) (hO.2.2 0 rfl)
       refine⟨rfl,?_⟩
       simp[go_sem,f0,hz',hs0,i2,i3]
      case s1=>
       refine Qc (v:=(.int .u8 z)) (λ av wv hE hS hO hD=>?_) (λ _=>rfl)
       have f53:=QEf av 53 (.string s) (hD.1 rfl _ rfl)
       refine⟨rfl,?_⟩
       simp[go_sem,f53,hz',hs0,i2,i3]
      case s2=>
       refine Qc (v:=(pt (w.heap.size+1) 0)) (λ av wv hE hS hO hD=>?_) (λ _=>rfl)
       have f5:=QEf av 5 (pt (w.heap.size+1) 0) (hO.2.2 5 rfl)
       refine⟨rfl,?_⟩
       simp[go_sem,f5,hz',hs0,i2,i3]
      case s3=>
       refine Qc (v:=(.int .u8 r.lo)) (λ av wv hE hS hO hD=>?_) (λ _=>rfl)
       have f55:=QEf av 55 (pt (w.heap.size+1) 0) (hD.1 rfl _ rfl);have v0:=Qd hE (by simp) v0
       refine⟨rfl,?_⟩
       simp[go_sem,f55,v0,hz',hs0,i2,i3]
      case s4=>
       refine Qc (v:=(.int .u8 (z - r.lo))) (λ av wv hE hS hO hD=>?_) (λ _=>rfl)
       have f54:=QEf av 54 (.int .u8 z) (hD.1 rfl _ rfl);have f56:=QEf av 56 (.int .u8 r.lo) (hD.2.1 rfl _ rfl)
       refine⟨rfl,?_⟩
       simp[go_sem,f54,f56,hz',hs0,i2,i3]
      case s5=>
       refine Qc (v:=(.int .u64 (z - r.lo))) (λ av wv hE hS hO hD=>?_) (λ _=>rfl)
       have f57:=QEf av 57 (.int .u8 (z - r.lo)) (hD.1 rfl _ rfl)
       refine⟨rfl,?_⟩
       simp[go_sem,f57,hz',hs0,i2,i3]
      case s6=>
       refine Qc (v:=(.int .u64 (z - r.lo))) (λ av wv hE hS hO hD=>?_) (λ _=>rfl)
       have f58:=QEf av 58 (.int .u64 (z - r.lo)) (hD.1 rfl _ rfl)
       refine⟨rfl,?_⟩
       simp[go_sem,f58,hz',hs0,i2,i3]
      intro a' w' hE hO hall
      have hA:=Ql (ds:=[53,54,55,56,57,58,8]) rfl hO (by kernel_rfl);have e53:a'.eval (.tmp 53)=(.string s):=hall.1 _ rfl;have e54:a'.eval (.tmp 54)=(.int .u8 z):=hall.2.1 _ rfl;have e55:a'.eval (.tmp 55)=(pt (w.heap.size+1) 0):=hall.2.2.1 _ rfl;have e56:a'.eval (.tmp 56)=(.int .u8 r.lo):=hall.2.2.2.1 _ rfl;have e57:a'.eval (.tmp 57)=(.int .u8 (z - r.lo)):=hall.2.2.2.2.1 _ rfl;have e58:a'.eval (.tmp 58)=(.int .u64 (z - r.lo)):=hall.2.2.2.2.2.1 _ rfl;have e8:a'.eval (.tmp 8)=(.int .u64 (z - r.lo)):=hall.2.2.2.2.2.2.1 _ rfl
      simp only[List.foldl_cons,List.foldl_nil,Act.put,List.setIfInBounds_toArray,List.set_cons_succ,List.set_cons_zero,e53,e54,e55,e56,e57,e58,e8]at hA
      clear hO hall e53 e54 e55 e56 e57 e58 e8
      subst hA
      have VB2:=QLh (Qk VB.out (Qx hE));have V12:=QLh (Qn hE (by simp) HV1.out);have V02:=QLh (Qn hE (by simp) V0.out);have v2:w'.cell? ⟨w.heap.size+1,2,none⟩=some (.int .i64 r.size):=Qa V12.out 2;clear hE VB V0 HV1 v0 v3 i2 i3
      go_upto_region 17 with fail
      have qs:1+q≤s.size:=by have:=HQ.out;omega
      have hxs:(s.extract 1 (1+q)).size=q:=Qo5 s qs
      obtain⟨bc,Y,hcv,hY1,hY2,hY3⟩:=Qjy w' (s.extract 1 (1+q))
      rw[hxs]at hcv hY3
      have HY3:Hid (∀j,j<q→Y.cell? ⟨(World.heap w').size,j,none⟩=some (.int .u8 (Qai s (1+j)))):=QLh (λ j hj=>by rw[hY3 j hj,Qo6 s qs hj]);have YB:=QLh (Qk VB2.out hY1);have Y1:=QLh ((hY1.block _ (lt_of_block V12.out)).trans V12.out);have Y0:=QLh ((hY1.block _ (lt_of_block V02.out)).trans V02.out);have YS:w.heap.size+1<Y.heap.size:=lt_of_block Y1.out;clear hY1 hY2 hY3 hxs;have i5:(1+r.size).toNat=1+q:=by have:=HQ.out;omega
      have i6:r.size.toNat=q:=by have:=HQ.out;omega
      have q8:q≤8:=by have:=HQ.out;omega
      have j1:1≤(s.size:Int):=by omega
      have j2:1+r.size≤(s.size:Int):=by omega
      have j3:1≤1+r.size:=by omega
      go_wp2_with fail
      clear hcv
      go_loopg [8,66] q (λ g n i wx=>∃j:Nat,g+j=q∧i=.int .i64 j∧n=.int .u64 (J8 s r j)∧wx=Y)
      case atStart=>exact⟨0,rfl,rfl,(by unfold J8;rw[if_pos C2.out,←HZ.out]),rfl⟩
      case round=>
       obtain⟨j,hj,rfl,rfl,rfl⟩:=hrel
       have vb:=Qhm (s:=s) (r:=r) (j:=j) (by have:=HQ.out;omega) o1 (by rw[←HZ.out];exact m1)
       by_cases hjq:j<q
       ·have b0:(j:Int)<q:=by omega
        have cc:=HY3.out j hjq;have vs:=QLh (Qgq s r j (by have:=HQ.out;omega));have cb:=Qev s (1+j);have vb2:=Qkt (s:=s) (r:=r) (j:=j) (by omega) o1 (by rw[←HZ.out];exact m1)
        obtain⟨c,hc⟩:∃c,Qai s (1+j)=c:=⟨_,rfl⟩
        obtain⟨v,hv⟩:∃v,J8 s r j=v:=⟨_,rfl⟩
        rw[hc]at cc cb
        rw[hv]at vb vb2
        have hor:=Qxk v c vb.1 vb2 cb.1 cb.2
        go_wp2
        go_roundg (gk - 1)
        case rel=>exact⟨j+1,by omega,by go_num,(by rw[vs.out,hv,hc,←hor]),rfl⟩
        case measure=>omega
       ·obtain rfl:j=q:=by omega
        have E0:Xa s l=if J8 s r j<r.least then .error 5 else .ok (J8 s r j,s.extract (1+j) s.size):=by
         rw[FR.out,if_neg (by omega),i6];rfl
        obtain⟨v,hv⟩:∃v,J8 s r j=v:=⟨_,rfl⟩
        rw[hv]at vb E0 ⊢
        have g2:wr.cell? ⟨w.heap.size+1,2,none⟩=some (.int .i64 r.size):=Qa Y1.out 2;have g3:wr.cell? ⟨w.heap.size+1,3,none⟩=some (.int .u64 r.least):=Qa Y1.out 3;have y0:∀o,wr.cell? ⟨w.heap.size,o,none⟩=_:=Qa Y0.out;have y1:∀o,wr.frozen? ⟨w.heap.size,o,none⟩=false:=Qj Y0.out;clear hv
        by_cases hv:v<r.least
        ·have E:Hid (Xa s l=.error 5):=QLh (by rw[E0,if_pos hv])
         clear E0
         go_wp2_with fail
         refine(Qbk 5 _).mono ?_
         rintro e w1 ⟨rfl,rfl⟩
         go_wp2
         rw[E.out]
         exact⟨rfl,YB.out,rfl⟩
        ·have E:Hid (Xa s l=.ok (v,s.extract (1+j) s.size)):=QLh (by rw[E0,if_neg hv])
         clear E0
         go_wp2_with fail
         try rw[Exit.noGoto_ret]
         refine bodyPost_ret (v:=.agg #[.int .u64 v,.string (s.extract (1+j) s.size)]) (by simp[results,Tryz.results224,go_sem,y0]) rfl ?_
         rw[E.out]
         exact⟨(by have:=YB.out;(repeat (first | exact Below.refl _ _ | assumption | (refine Zd ?_) | (refine Zc ?_ _) | (refine Qh ?_ _) | (refine Zs ?_ (by first | omega | (simp;done) | (simp;omega)) _) | (refine Qk ?_ (by assumption))))),rfl⟩
     ·have c2':(r.size == 0)=false:=by simpa using c2
      have HQ:=QLh hq;have C2:=QLh c2;clear hq c2;have qs:1+q≤s.size:=by have:=HQ.out;omega
      have hxs:(s.extract 1 (1+q)).size=q:=Qo5 s qs
      obtain⟨bc,Y,hcv,hY1,hY2,hY3⟩:=Qjy V (s.extract 1 (1+q))
      rw[hxs]at hcv hY3
      have HY3:Hid (∀j,j<q→Y.cell? ⟨(World.heap V).size,j,none⟩=some (.int .u8 (Qai s (1+j)))):=QLh (λ j hj=>by rw[hY3 j hj,Qo6 s qs hj]);have YB:=QLh (Qk VB.out hY1);have Y1:=QLh ((hY1.block _ (lt_of_block HV1.out)).trans HV1.out);have Y0:=QLh ((hY1.block _ (lt_of_block V0.out)).trans V0.out);have YS:w.heap.size+1<Y.heap.size:=lt_of_block Y1.out;clear hY1 hY2 hY3 hxs;have i5:(1+r.size).toNat=1+q:=by have:=HQ.out;omega
      have i6:r.size.toNat=q:=by have:=HQ.out;omega
      have q8:q≤8:=by have:=HQ.out;omega
      have j1:1≤(s.size:Int):=by omega
      have j2:1+r.size≤(s.size:Int):=by omega
      have j3:1≤1+r.size:=by omega
      go_wp2_with fail
      clear hcv
      go_loopg [8,66] q (λ g n i wx=>∃j:Nat,g+j=q∧i=.int .i64 j∧n=.int .u64 (J8 s r j)∧wx=Y)
      case atStart=>exact⟨0,rfl,rfl,(by unfold J8;rw[if_neg C2.out];rfl),rfl⟩
      case round=>
       obtain⟨j,hj,rfl,rfl,rfl⟩:=hrel
       have vb:=Qhm (s:=s) (r:=r) (j:=j) (by have:=HQ.out;omega) o1 (by rw[←HZ.out];exact m1)
       by_cases hjq:j<q
       ·have b0:(j:Int)<q:=by omega
        have cc:=HY3.out j hjq;have vs:=QLh (Qgq s r j (by have:=HQ.out;omega));have cb:=Qev s (1+j);have vb2:=Qkt (s:=s) (r:=r) (j:=j) (by omega) o1 (by rw[←HZ.out];exact m1)
        obtain⟨c,hc⟩:∃c,Qai s (1+j)=c:=⟨_,rfl⟩
        obtain⟨v,hv⟩:∃v,J8 s r j=v:=⟨_,rfl⟩
        rw[hc]at cc cb
        rw[hv]at vb vb2
        have hor:=Qxk v c vb.1 vb2 cb.1 cb.2
        go_wp2
        go_roundg (gk - 1)
        case rel=>exact⟨j+1,by omega,by go_num,(by rw[vs.out,hv,hc,←hor]),rfl⟩
        case measure=>omega
       ·obtain rfl:j=q:=by omega
        have E0:Xa s l=if J8 s r j<r.least then .error 5 else .ok (J8 s r j,s.extract (1+j) s.size):=by
         rw[FR.out,if_neg (by omega),i6];rfl
        obtain⟨v,hv⟩:∃v,J8 s r j=v:=⟨_,rfl⟩
        rw[hv]at vb E0 ⊢
        have g2:wr.cell? ⟨w.heap.size+1,2,none⟩=some (.int .i64 r.size):=Qa Y1.out 2;have g3:wr.cell? ⟨w.heap.size+1,3,none⟩=some (.int .u64 r.least):=Qa Y1.out 3;have y0:∀o,wr.cell? ⟨w.heap.size,o,none⟩=_:=Qa Y0.out;have y1:∀o,wr.frozen? ⟨w.heap.size,o,none⟩=false:=Qj Y0.out;clear hv
        by_cases hv:v<r.least
        ·have E:Hid (Xa s l=.error 5):=QLh (by rw[E0,if_pos hv])
         clear E0
         go_wp2_with fail
         refine(Qbk 5 _).mono ?_
         rintro e w1 ⟨rfl,rfl⟩
         go_wp2
         rw[E.out]
         exact⟨rfl,YB.out,rfl⟩
        ·have E:Hid (Xa s l=.ok (v,s.extract (1+j) s.size)):=QLh (by rw[E0,if_neg hv])
         clear E0
         go_wp2_with fail
         try rw[Exit.noGoto_ret]
         refine bodyPost_ret (v:=.agg #[.int .u64 v,.string (s.extract (1+j) s.size)]) (by simp[results,Tryz.results224,go_sem,y0]) rfl ?_
         rw[E.out]
         exact⟨(by have:=YB.out;(repeat (first | exact Below.refl _ _ | assumption | (refine Zd ?_) | (refine Zc ?_ _) | (refine Qh ?_ _) | (refine Zs ?_ (by first | omega | (simp;done) | (simp;omega)) _) | (refine Qk ?_ (by assumption))))),rfl⟩
   ·obtain⟨x2,hx2⟩:∃x2,x2=false:=⟨_,rfl⟩
    have M2:decide (z≤(Ja l k).hi)=x2:=by rw[hx2];simpa using m2
    refine Z9 1000 (none) (Qaw [λ u _=>u=(.string s),λ u _=>u=(.int .u8 z),λ u _=>u=(pt wr.heap.size 0),λ u _=>u=(.int .u8 (Ja l k).lo),λ u _=>u=(.bool true),λ u _=>u=(.bool true),λ u _=>u=(.string s),λ u _=>u=(.int .u8 z),λ u _=>u=(pt wr.heap.size 1),λ u _=>u=(.int .u8 (Ja l k).hi),λ u _=>u=(.bool x2),λ u _=>u=(.bool x2),λ u _=>u=(.bool x2)]) rfl (by kernel_rfl) (Zb ⟨Qe,Qe,Qe,Qe,Qe,Qe,Qe,Qe,Qe,Qe,Qe,Qe,Qe,trivial⟩) (Q6 13 ⟨?s0,?s1,?s2,?s3,?s4,?s5,?s6,?s7,?s8,?s9,?s10,?s11,?s12,trivial⟩) ?_
    case s0=>
     refine Qc (v:=(.string s)) (λ av wv hE hS hO hD=>?_) (λ _=>rfl)
     have f0:=QEf av 0 (.string s) (hO.2.2 0 rfl)
     refine⟨rfl,?_⟩
     simp[go_sem,f0,hz',hs0,M1,M2]
    case s1=>
     refine Qc (v:=(.int .u8 z)) (λ av wv hE hS hO hD=>?_) (λ _=>rfl)
     have f22:=QEf av 22 (.string s) (hD.1 rfl _ rfl)
     refine⟨rfl,?_⟩
     simp[go_sem,f22,hz',hs0,M1,M2]
    case s2=>
     refine Qc (v:=(pt wr.heap.size 0)) (λ av wv hE hS hO hD=>?_) (λ _=>rfl)
     have f7:=QEf av 7 (pt wr.heap.size 0) (hO.2.2 7 rfl)
     refine⟨rfl,?_⟩
     simp[go_sem,f7,hz',hs0,M1,M2]
    case s3=>
     refine Qc (v:=(.int .u8 (Ja l k).lo)) (λ av wv hE hS hO hD=>?_) (λ _=>rfl)
     have f24:=QEf av 24 (pt wr.heap.size 0) (hD.1 rfl _ rfl);have q0:=Qd hE (by simp) q0;have q1:=Qd hE (by simp) q1
     refine⟨rfl,?_⟩
     simp[go_sem,f24,q0,q1,hz',hs0,M1,M2]
    case s4=>
     refine Qc (v:=(.bool true)) (λ av wv hE hS hO hD=>?_) (λ _=>rfl)
     have f23:=QEf av 23 (.int .u8 z) (hD.1 rfl _ rfl);have f25:=QEf av 25 (.int .u8 (Ja l k).lo) (hD.2.1 rfl _ rfl)
     refine⟨rfl,?_⟩
     simp[go_sem,f23,f25,hz',hs0,M1,M2]
    case s5=>
     refine Qc (v:=(.bool true)) (λ av wv hE hS hO hD=>?_) (λ _=>rfl)
     have f26:=QEf av 26 (.bool true) (hD.1 rfl _ rfl)
     refine⟨rfl,?_⟩
     simp[go_sem,f26,hz',hs0,M1,M2]
    case s6=>
     refine Qc (v:=(.string s)) (λ av wv hE hS hO hD=>?_) (λ _=>rfl)
     have f0:=QEf av 0 (.string s) (hO.2.2 0 rfl);have d27:av.eval (.tmp 27)=(.bool true):=hD.1 rfl _ rfl;have f27:=(Qq av 27).symm.trans d27
     refine⟨(Qs (d:=27) (b:=true) (want:=true) rfl rfl rfl d27),?_⟩
     simp[go_sem,f0,f27,hz',hs0,M1,M2]
    case s7=>
     refine Qc (v:=(.int .u8 z)) (λ av wv hE hS hO hD=>?_) (λ _=>rfl)
     have f28:=QEf av 28 (.string s) (hD.1 rfl _ rfl);have d27:av.eval (.tmp 27)=(.bool true):=hD.2.1 rfl _ rfl;have f27:=(Qq av 27).symm.trans d27
     refine⟨(Qs (d:=27) (b:=true) (want:=true) rfl rfl rfl d27),?_⟩
     simp[go_sem,f28,f27,hz',hs0,M1,M2]
    case s8=>
     refine Qc (v:=(pt wr.heap.size 1)) (λ av wv hE hS hO hD=>?_) (λ _=>rfl)
     have f7:=QEf av 7 (pt wr.heap.size 0) (hO.2.2 7 rfl);have d27:av.eval (.tmp 27)=(.bool true):=hD.1 rfl _ rfl;have f27:=(Qq av 27).symm.trans d27
     refine⟨(Qs (d:=27) (b:=true) (want:=true) rfl rfl rfl d27),?_⟩
     simp[go_sem,f7,f27,hz',hs0,M1,M2]
    case s9=>
     refine Qc (v:=(.int .u8 (Ja l k).hi)) (λ av wv hE hS hO hD=>?_) (λ _=>rfl)
     have f30:=QEf av 30 (pt wr.heap.size 1) (hD.1 rfl _ rfl);have d27:av.eval (.tmp 27)=(.bool true):=hD.2.1 rfl _ rfl;have f27:=(Qq av 27).symm.trans d27;have q0:=Qd hE (by simp) q0;have q1:=Qd hE (by simp) q1
     refine⟨(Qs (d:=27) (b:=true) (want:=true) rfl rfl rfl d27),?_⟩
     simp[go_sem,f30,f27,q0,q1,hz',hs0,M1,M2]
    case s10=>
     refine Qc (v:=(.bool x2)) (λ av wv hE hS hO hD=>?_) (λ _=>rfl)
     have f29:=QEf av 29 (.int .u8 z) (hD.1 rfl _ rfl);have f31:=QEf av 31 (.int .u8 (Ja l k).hi) (hD.2.1 rfl _ rfl);have d27:av.eval (.tmp 27)=(.bool true):=hD.2.2.1 rfl _ rfl;have f27:=(Qq av 27).symm.trans d27
     refine⟨(Qs (d:=27) (b:=true) (want:=true) rfl rfl rfl d27),?_⟩
     simp[go_sem,f29,f31,f27,hz',hs0,M1,M2]
    case s11=>
     refine Qc (v:=(.bool x2)) (λ av wv hE hS hO hD=>?_) (λ _=>rfl)
     have f27:=QEf av 27 (.bool true) (hD.1 rfl _ rfl);have f32:=QEf av 32 (.bool x2) (hD.2.1 rfl _ rfl)
     refine⟨rfl,?_⟩
     simp[go_sem,f27,f32,hz',hs0,M1,M2]
    case s12=>
     refine Qc (v:=(.bool x2)) (λ av wv hE hS hO hD=>?_) (λ _=>rfl)
     have f33:=QEf av 33 (.bool x2) (hD.1 rfl _ rfl)
     refine⟨rfl,?_⟩
     simp[go_sem,f33,hz',hs0,M1,M2]
    intro a' w' hE hO hall
    have hA:=Ql (ds:=[22,23,24,25,26,27,28,29,30,31,32,33,21]) rfl hO (by kernel_rfl);have e22:a'.eval (.tmp 22)=(.string s):=hall.1 _ rfl;have e23:a'.eval (.tmp 23)=(.int .u8 z):=hall.2.1 _ rfl;have e24:a'.eval (.tmp 24)=(pt wr.heap.size 0):=hall.2.2.1 _ rfl;have e25:a'.eval (.tmp 25)=(.int .u8 (Ja l k).lo):=hall.2.2.2.1 _ rfl;have e26:a'.eval (.tmp 26)=(.bool true):=hall.2.2.2.2.1 _ rfl;have e27:a'.eval (.tmp 27)=(.bool true):=hall.2.2.2.2.2.1 _ rfl;have e28:a'.eval (.tmp 28)=(.string s):=hall.2.2.2.2.2.2.1 _ rfl;have e29:a'.eval (.tmp 29)=(.int .u8 z):=hall.2.2.2.2.2.2.2.1 _ rfl;have e30:a'.eval (.tmp 30)=(pt wr.heap.size 1):=hall.2.2.2.2.2.2.2.2.1 _ rfl;have e31:a'.eval (.tmp 31)=(.int .u8 (Ja l k).hi):=hall.2.2.2.2.2.2.2.2.2.1 _ rfl;have e32:a'.eval (.tmp 32)=(.bool x2):=hall.2.2.2.2.2.2.2.2.2.2.1 _ rfl;have e33:a'.eval (.tmp 33)=(.bool x2):=hall.2.2.2.2.2.2.2.2.2.2.2.1 _ rfl;have e21:a'.eval (.tmp 21)=(.bool x2):=hall.2.2.2.2.2.2.2.2.2.2.2.2.1 _ rfl
    simp only[List.foldl_cons,List.foldl_nil,Act.put,List.setIfInBounds_toArray,List.set_cons_succ,List.set_cons_zero,e22,e23,e24,e25,e26,e27,e28,e29,e30,e31,e32,e33,e21]at hA
    clear hO hall e22 e23 e24 e25 e26 e27 e28 e29 e30 e31 e32 e33 e21
    subst hA
    have NM:Hid (¬((Ja l k).lo≤Qai s 0∧Qai s 0≤(Ja l k).hi)):=QLh (by rw[←HZ.out];exact λ h=>m2 h.2)
    subst hx2
    clear M1 M2 m1 m2 q0 q1;have B7:=QLh (Qk HD.out (Qx hE));have X0:=QLh (Qn hE (by simp) HB0.out);have X1:=QLh (Qn hE (by simp) HB1.out);clear hE
    by_cases hlast:k+1=len l
    ·have e1:((k:Int) == (len l:Int) - 1)=true:=by simp;omega
     have e2:IntKind.i64.wrap ((len l:Int) - 1)=(len l:Int) - 1:=IntWalk.i64_in _ (by omega);have E:Hid (Xa s l=.error 5):=QLh (Ql1 (by omega) (λ j hj=>by
      by_cases e:j=k
      ·subst e;exact NM.out
      ·exact hn.out j (by omega)))
     go_wp2_with fail
     refine(Qbk 5 _).mono ?_
     rintro e w1 ⟨rfl,rfl⟩
     go_wp2
     rw[E.out]
     exact⟨rfl,B7.out,rfl⟩
    ·have e1:((k:Int) == (len l:Int) - 1)=false:=by simp;omega
     have e2:IntKind.i64.wrap ((len l:Int) - 1)=(len l:Int) - 1:=IntWalk.i64_in _ (by omega)
     go_wp2
     go_roundw
     case rel=>exact⟨k+1,by omega,by go_num,B7.out,(λ j hj=>by
      by_cases e:j=k
      ·subst e;exact NM.out
      ·exact hn.out j (by omega)),X0.out,X1.out⟩
     case measure=>simp[intOf];omega
  ·have M1:decide ((Ja l k).lo≤z)=false:=by simpa using m1
   refine Z9 1000 (none) (Qaw [λ u _=>u=(.string s),λ u _=>u=(.int .u8 z),λ u _=>u=(pt wr.heap.size 0),λ u _=>u=(.int .u8 (Ja l k).lo),λ u _=>u=(.bool false),λ u _=>u=(.bool false),λ u _=>u=undef,λ u _=>u=undef,λ u _=>u=undef,λ u _=>u=undef,λ u _=>u=undef,λ u _=>u=(.bool false),λ u _=>u=(.bool false)]) rfl (by kernel_rfl) (Zb ⟨Qe,Qe,Qe,Qe,Qe,Qe,Qe,Qe,Qe,Qe,Qe,Qe,Qe,trivial⟩) (Q6 13 ⟨?s0,?s1,?s2,?s3,?s4,?s5,?s6,?s7,?s8,?s9,?s10,?s11,?s12,trivial⟩) ?_
   case s0=>
    refine Qc (v:=(.string s)) (λ av wv hE hS hO hD=>?_) (λ _=>rfl)
    have f0:=QEf av 0 (.string s) (hO.2.2 0 rfl)
    refine⟨rfl,?_⟩
    simp[go_sem,f0,hz',hs0,M1]
   case s1=>
    refine Qc (v:=(.int .u8 z)) (λ av wv hE hS hO hD=>?_) (λ _=>rfl)
    have f22:=QEf av 22 (.string s) (hD.1 rfl _ rfl)
    refine⟨rfl,?_⟩
    simp[go_sem,f22,hz',hs0,M1]
   case s2=>
    refine Qc (v:=(pt wr.heap.size 0)) (λ av wv hE hS hO hD=>?_) (λ _=>rfl)
    have f7:=QEf av 7 (pt wr.heap.size 0) (hO.2.2 7 rfl)
    refine⟨rfl,?_⟩
    simp[go_sem,f7,hz',hs0,M1]
   case s3=>
    refine Qc (v:=(.int .u8 (Ja l k).lo)) (λ av wv hE hS hO hD=>?_) (λ _=>rfl)
    have f24:=QEf av 24 (pt wr.heap.size 0) (hD.1 rfl _ rfl);have q0:=Qd hE (by simp) q0;have q1:=Qd hE (by simp) q1
    refine⟨rfl,?_⟩
    simp[go_sem,f24,q0,q1,hz',hs0,M1]
   case s4=>
    refine Qc (v:=(.bool false)) (λ av wv hE hS hO hD=>?_) (λ _=>rfl)
    have f23:=QEf av 23 (.int .u8 z) (hD.1 rfl _ rfl);have f25:=QEf av 25 (.int .u8 (Ja l k).lo) (hD.2.1 rfl _ rfl)
    refine⟨rfl,?_⟩
    simp[go_sem,f23,f25,hz',hs0,M1]
   case s5=>
    refine Qc (v:=(.bool false)) (λ av wv hE hS hO hD=>?_) (λ _=>rfl)
    have f26:=QEf av 26 (.bool false) (hD.1 rfl _ rfl)
    refine⟨rfl,?_⟩
    simp[go_sem,f26,hz',hs0,M1]
   case s6=>
    refine Zx (λ av wv hE hS hO hD=>?_) (λ _=>rfl)
    have f0:=QEf av 0 (.string s) (hO.2.2 0 rfl);have d27:av.eval (.tmp 27)=(.bool false):=hD.1 rfl _ rfl;have f27:=(Qq av 27).symm.trans d27
    exact(Qs (d:=27) (b:=false) (want:=true) rfl rfl rfl d27)
   case s7=>
    refine Zx (λ av wv hE hS hO hD=>?_) (λ _=>rfl)
    have f28:=QEf av 28 (undef) (hD.1 rfl _ rfl);have d27:av.eval (.tmp 27)=(.bool false):=hD.2.1 rfl _ rfl;have f27:=(Qq av 27).symm.trans d27
    exact(Qs (d:=27) (b:=false) (want:=true) rfl rfl rfl d27)
   case s8=>
    refine Zx (λ av wv hE hS hO hD=>?_) (λ _=>rfl)
    have f7:=QEf av 7 (pt wr.heap.size 0) (hO.2.2 7 rfl);have d27:av.eval (.tmp 27)=(.bool false):=hD.1 rfl _ rfl;have f27:=(Qq av 27).symm.trans d27
    exact(Qs (d:=27) (b:=false) (want:=true) rfl rfl rfl d27)
   case s9=>
    refine Zx (λ av wv hE hS hO hD=>?_) (λ _=>rfl)
    have f30:=QEf av 30 (undef) (hD.1 rfl _ rfl);have d27:av.eval (.tmp 27)=(.bool false):=hD.2.1 rfl _ rfl;have f27:=(Qq av 27).symm.trans d27
    exact(Qs (d:=27) (b:=false) (want:=true) rfl rfl rfl d27)
   case s10=>
    refine Zx (λ av wv hE hS hO hD=>?_) (λ _=>rfl)
    have f29:=QEf av 29 (undef) (hD.1 rfl _ rfl);have f31:=QEf av 31 (undef) (hD.2.1 rfl _ rfl);have d27:av.eval (.tmp 27)=(.bool false):=hD.2.2.1 rfl _ rfl;have f27:=(Qq av 27).symm.trans d27
    exact(Qs (d:=27) (b:=false) (want:=true) rfl rfl rfl d27)
   case s11=>
    refine Qc (v:=(.bool false)) (λ av wv hE hS hO hD=>?_) (λ _=>rfl)
    have f27:=QEf av 27 (.bool false) (hD.1 rfl _ rfl);have f32:=QEf av 32 (undef) (hD.2.1 rfl _ rfl)
    refine⟨rfl,?_⟩
    simp[go_sem,f27,f32,hz',hs0,M1]
   case s12=>
    refine Qc (v:=(.bool false)) (λ av wv hE hS hO hD=>?_) (λ _=>rfl)
    have f33:=QEf av 33 (.bool false) (hD.1 rfl _ rfl)
    refine⟨rfl,?_⟩
    simp[go_sem,f33,hz',hs0,M1]
   intro a' w' hE hO hall
   have hA:=Ql (ds:=[22,23,24,25,26,27,28,29,30,31,32,33,21]) rfl hO (by kernel_rfl);have e22:a'.eval (.tmp 22)=(.string s):=hall.1 _ rfl;have e23:a'.eval (.tmp 23)=(.int .u8 z):=hall.2.1 _ rfl;have e24:a'.eval (.tmp 24)=(pt wr.heap.size 0):=hall.2.2.1 _ rfl;have e25:a'.eval (.tmp 25)=(.int .u8 (Ja l k).lo):=hall.2.2.2.1 _ rfl;have e26:a'.eval (.tmp 26)=(.bool false):=hall.2.2.2.2.1 _ rfl;have e27:a'.eval (.tmp 27)=(.bool false):=hall.2.2.2.2.2.1 _ rfl;have e28:a'.eval (.tmp 28)=undef:=hall.2.2.2.2.2.2.1 _ rfl;have e29:a'.eval (.tmp 29)=undef:=hall.2.2.2.2.2.2.2.1 _ rfl;have e30:a'.eval (.tmp 30)=undef:=hall.2.2.2.2.2.2.2.2.1 _ rfl;have e31:a'.eval (.tmp 31)=undef:=hall.2.2.2.2.2.2.2.2.2.1 _ rfl;have e32:a'.eval (.tmp 32)=undef:=hall.2.2.2.2.2.2.2.2.2.2.1 _ rfl;have e33:a'.eval (.tmp 33)=(.bool false):=hall.2.2.2.2.2.2.2.2.2.2.2.1 _ rfl;have e21:a'.eval (.tmp 21)=(.bool false):=hall.2.2.2.2.2.2.2.2.2.2.2.2.1 _ rfl
   simp only[List.foldl_cons,List.foldl_nil,Act.put,List.setIfInBounds_toArray,List.set_cons_succ,List.set_cons_zero,e22,e23,e24,e25,e26,e27,e28,e29,e30,e31,e32,e33,e21]at hA
   clear hO hall e22 e23 e24 e25 e26 e27 e28 e29 e30 e31 e32 e33 e21
   subst hA
   have NM:Hid (¬((Ja l k).lo≤Qai s 0∧Qai s 0≤(Ja l k).hi)):=QLh (by rw[←HZ.out];exact λ h=>m1 h.1);clear M1 m1 q0 q1;have B7:=QLh (Qk HD.out (Qx hE));have X0:=QLh (Qn hE (by simp) HB0.out);have X1:=QLh (Qn hE (by simp) HB1.out);clear hE
   by_cases hlast:k+1=len l
   ·have e1:((k:Int) == (len l:Int) - 1)=true:=by simp;omega
    have e2:IntKind.i64.wrap ((len l:Int) - 1)=(len l:Int) - 1:=IntWalk.i64_in _ (by omega);have E:Hid (Xa s l=.error 5):=QLh (Ql1 (by omega) (λ j hj=>by
     by_cases e:j=k
     ·subst e;exact NM.out
     ·exact hn.out j (by omega)))
    go_wp2_with fail
    refine(Qbk 5 _).mono ?_
    rintro e w1 ⟨rfl,rfl⟩
    go_wp2
    rw[E.out]
    exact⟨rfl,B7.out,rfl⟩
   ·have e1:((k:Int) == (len l:Int) - 1)=false:=by simp;omega
    have e2:IntKind.i64.wrap ((len l:Int) - 1)=(len l:Int) - 1:=IntWalk.i64_in _ (by omega)
    go_wp2
    go_roundw
    case rel=>exact⟨k+1,by omega,by go_num,B7.out,(λ j hj=>by
     by_cases e:j=k
     ·subst e;exact NM.out
     ·exact hn.out j (by omega)),X0.out,X1.out⟩
    case measure=>simp[intOf];omega
def RdB(w:World)(b:Nat)(s:ByteArray)(a most:Int):Prop:=w.heap[b]?=some (.cells #[.string s,.int .i64 a,.int .i64 most] 275 (0,0))
theorem RdB.below{w w':World}{b:Nat}{s:ByteArray}{a most:Int}(h:RdB w b s a most)(hb:Below w.heap.size w w'):RdB w' b s a most:=(hb.block _ (lt_of_block h)).trans h
theorem Ql2(w:World)(b:Nat)(s:ByteArray)(a most:Int)(h:RdB w b s a most):
  Calls Tryz.prog 256 #[pt b 0] w λ e w'=>e=.returned (.int .i64 a)∧w'=w:=by
 have c1:w.cell? ⟨b,1,none⟩=some (.int .i64 a):=Qa h 1;clear h
 go_enter Tryz.func256,Tryz.ntmps256
 go_wp2
 go_ret
 exact⟨rfl,rfl⟩
theorem Qfj(w:World)(b:Nat)(s:ByteArray)(a:Nat)(most:Int)(h:RdB w b s a most)(ha:a≤s.size)(hs:s.size≤9223372036854775807):
  Calls Tryz.prog 225 #[pt b 0] w λ e w'=>e=.returned (.string (s.extract a s.size))∧Below w.heap.size w w':=by
 have c0:w.cell? ⟨b,0,none⟩=some (.string s):=Qa h 0;have c1:w.cell? ⟨b,1,none⟩=some (.int .i64 a):=Qa h 1;have i1:(a:Int)≤s.size:=by omega
 have i2:0≤(a:Int):=by omega
 have i3:a≤s.size:=ha;clear h
 go_enter Tryz.func225,Tryz.ntmps225
 go_wp2
 refine Z9 1000 (none) (Qaw [λ u _=>u=(pt b 0),λ u _=>u=(pt b 0),λ u _=>u=(pt b 0),λ u _=>u=(.string s),λ u _=>u=(pt b 0),λ u _=>u=(pt b 0),λ u _=>u=(pt b 1),λ u _=>u=(.int .i64 a),λ u _=>u=(.string (s.extract a s.size)),λ u _=>u=(.string (s.extract a s.size))]) rfl (by kernel_rfl) (Zb ⟨Qe,Qe,Qe,Qe,Qe,Qe,Qe,Qe,Qe,Qe,trivial⟩) (Q6 10 ⟨?s0,?s1,?s2,?s3,?s4,?s5,?s6,?s7,?s8,?s9,trivial⟩) ?_
 case s0=>
  refine Qc (v:=(pt b 0)) (λ av wv hE hS hO hD=>?_) (λ _=>rfl)
  have f0:=QEf av 0 (pt b 0) (hO.2.2 0 rfl)
  refine⟨rfl,?_⟩
  simp[go_sem,f0,i1,i2,i3]
 case s1=>
  refine Qc (v:=(pt b 0)) (λ av wv hE hS hO hD=>?_) (λ _=>rfl)
  have f6:=QEf av 6 (pt b 0) (hD.1 rfl _ rfl)
  refine⟨rfl,?_⟩
  simp[go_sem,f6,i1,i2,i3]
 case s2=>
  refine Qc (v:=(pt b 0)) (λ av wv hE hS hO hD=>?_) (λ _=>rfl)
  have f7:=QEf av 7 (pt b 0) (hD.1 rfl _ rfl)
  refine⟨rfl,?_⟩
  simp[go_sem,f7,i1,i2,i3]
 case s3=>
  refine Qc (v:=(.string s)) (λ av wv hE hS hO hD=>?_) (λ _=>rfl)
  have f8:=QEf av 8 (pt b 0) (hD.1 rfl _ rfl);have c0:=Qd hE (by simp) c0;have c1:=Qd hE (by simp) c1
  refine⟨rfl,?_⟩
  simp[go_sem,f8,c0,c1,i1,i2,i3]
 case s4=>
  refine Qc (v:=(pt b 0)) (λ av wv hE hS hO hD=>?_) (λ _=>rfl)
  have f0:=QEf av 0 (pt b 0) (hO.2.2 0 rfl)
  refine⟨rfl,?_⟩
  simp[go_sem,f0,i1,i2,i3]
 case s5=>
  refine Qc (v:=(pt b 0)) (λ av wv hE hS hO hD=>?_) (λ _=>rfl)
  have f10:=QEf av 10 (pt b 0) (hD.1 rfl _ rfl)
  refine⟨rfl,?_⟩
  simp[go_sem,f10,i1,i2,i3]
 case s6=>
  refine Qc (v:=(pt b 1)) (λ av wv hE hS hO hD=>?_) (λ _=>rfl)
  have f11:=QEf av 11 (pt b 0) (hD.1 rfl _ rfl)
  refine⟨rfl,?_⟩
  simp[go_sem,f11,i1,i2,i3]
 case s7=>
  refine Qc (v:=(.int .i64 a)) (λ av wv hE hS hO hD=>?_) (λ _=>rfl)
  have f12:=QEf av 12 (pt b 1) (hD.1 rfl _ rfl);have c0:=Qd hE (by simp) c0;have c1:=Qd hE (by simp) c1
  refine⟨rfl,?_⟩
  simp[go_sem,f12,c0,c1,i1,i2,i3]
 case s8=>
  refine Qc (v:=(.string (s.extract a s.size))) (λ av wv hE hS hO hD=>?_) (λ _=>rfl)
  have f9:=QEf av 9 (.string s) (hD.1 rfl _ rfl);have f13:=QEf av 13 (.int .i64 a) (hD.2.1 rfl _ rfl)
  refine⟨rfl,?_⟩
  simp[go_sem,f9,f13,i1,i2,i3]
 case s9=>
  refine Qc (v:=(.string (s.extract a s.size))) (λ av wv hE hS hO hD=>?_) (λ _=>rfl)
  have f14:=QEf av 14 (.string (s.extract a s.size)) (hD.1 rfl _ rfl)
  refine⟨rfl,?_⟩
  simp[go_sem,f14,i1,i2,i3]
 intro a' w' hE hO hall
 have hA:=Ql (ds:=[6,7,8,9,10,11,12,13,14,2]) rfl hO (by kernel_rfl);have e6:a'.eval (.tmp 6)=(pt b 0):=hall.1 _ rfl;have e7:a'.eval (.tmp 7)=(pt b 0):=hall.2.1 _ rfl;have e8:a'.eval (.tmp 8)=(pt b 0):=hall.2.2.1 _ rfl;have e9:a'.eval (.tmp 9)=(.string s):=hall.2.2.2.1 _ rfl;have e10:a'.eval (.tmp 10)=(pt b 0):=hall.2.2.2.2.1 _ rfl;have e11:a'.eval (.tmp 11)=(pt b 0):=hall.2.2.2.2.2.1 _ rfl;have e12:a'.eval (.tmp 12)=(pt b 1):=hall.2.2.2.2.2.2.1 _ rfl;have e13:a'.eval (.tmp 13)=(.int .i64 a):=hall.2.2.2.2.2.2.2.1 _ rfl;have e14:a'.eval (.tmp 14)=(.string (s.extract a s.size)):=hall.2.2.2.2.2.2.2.2.1 _ rfl;have e2:a'.eval (.tmp 2)=(.string (s.extract a s.size)):=hall.2.2.2.2.2.2.2.2.2.1 _ rfl
 simp only[List.foldl_cons,List.foldl_nil,Act.put,List.setIfInBounds_toArray,List.set_cons_succ,List.set_cons_zero,e6,e7,e8,e9,e10,e11,e12,e13,e14,e2]at hA
 clear hO hall e6 e7 e8 e9 e10 e11 e12 e13 e14 e2
 subst hA
 have B:=QLh (Qx hE);clear hE
 go_wp2
 go_ret
 exact⟨rfl,B.out⟩
def Qa1(n most:Int)(rest:ByteArray):Except Int (Int × ByteArray):=if most<n then .error 3 else .ok (n,rest)
theorem Ql3(w:World)(b:Nat)(s rest:ByteArray)(a most n:Int)(h:RdB w b s a most)(hm0:0≤most)(hm1:most≤9223372036854775807):
  Calls Tryz.prog 259 #[pt b 0,.agg #[.int .u64 n,.string rest]] w (Qo7 (Qa1 n most rest) w):=by
 have c2:w.cell? ⟨b,2,none⟩=some (.int .i64 most):=Qa h 2;have hl:=lt_of_block h;have i1:IntKind.u64.wrap most=most:=IntWalk.u64_in _ (by omega);clear h
 go_enter Tryz.func259,Tryz.ntmps259
 go_wp2
 obtain⟨W,hW⟩:∃W,(w.alloc (.cells #[.int .u64 n,.string rest] 311)).alloc (.cells #[.int .u64 0,.string ⟨#[]⟩] 311)=W:=⟨_,rfl⟩
 have WB:Hid (Below w.heap.size w W):=QLh (by rw[←hW];(repeat (first | exact Below.refl _ _ | assumption | (refine Zd ?_) | (refine Zc ?_ _) | (refine Qh ?_ _) | (refine Zs ?_ (by first | omega | (simp;done) | (simp;omega)) _) | (refine Qk ?_ (by assumption)))))
 have W0:Hid (W.heap[w.heap.size]?=some (.cells #[.int .u64 n,.string rest] 311 (0,0))):=QLh (by rw[←hW];(repeat (first | exact Qi _ (by repeat (first | rfl | refine Z1 _ ?_)) | refine Qf ?_ _)))
 have W1:Hid (W.heap[w.heap.size+1]?=some (.cells #[.int .u64 0,.string ⟨#[]⟩] 311 (0,0))):=QLh (by rw[←hW];(repeat (first | exact Qi _ (by repeat (first | rfl | refine Z1 _ ?_)) | refine Qf ?_ _)))
 rw[hW]
 have c2:W.cell? ⟨b,2,none⟩=some (.int .i64 most):=by rw[WB.out.cell (p:=⟨b,2,none⟩) hl];exact c2
 have d0:W.cell? ⟨w.heap.size,0,none⟩=some (.int .u64 n):=Qa W0.out 0;clear hW
 obtain⟨x,hx⟩:∃x,decide (most<n)=x:=⟨_,rfl⟩
 refine Z9 1000 (none) (Qaw [λ u _=>u=(pt w.heap.size 0),λ u _=>u=(.int .u64 n),λ u _=>u=(pt b 0),λ u _=>u=(pt b 0),λ u _=>u=(pt b 2),λ u _=>u=(.int .i64 most),λ u _=>u=(.int .u64 most),λ u _=>u=(.bool x)]) rfl (by kernel_rfl) (Zb ⟨Qe,Qe,Qe,Qe,Qe,Qe,Qe,Qe,trivial⟩) (Q6 8 ⟨?s0,?s1,?s2,?s3,?s4,?s5,?s6,?s7,trivial⟩) ?_
 case s0=>
  refine Qc (v:=(pt w.heap.size 0)) (λ av wv hE hS hO hD=>?_) (λ _=>rfl)
  have f3:=QEf av 3 (pt w.heap.size 0) (hO.2.2 3 rfl)
  refine⟨rfl,?_⟩
  simp[go_sem,f3,i1]
 case s1=>
  refine Qc (v:=(.int .u64 n)) (λ av wv hE hS hO hD=>?_) (λ _=>rfl)
  have f5:=QEf av 5 (pt w.heap.size 0) (hD.1 rfl _ rfl);have d0:=Qd hE (by simp) d0;have c2:=Qd hE (by simp) c2
  refine⟨rfl,?_⟩
  simp[go_sem,f5,d0,c2,i1]
 case s2=>
  refine Qc (v:=(pt b 0)) (λ av wv hE hS hO hD=>?_) (λ _=>rfl)
  have f0:=QEf av 0 (pt b 0) (hO.2.2 0 rfl)
  refine⟨rfl,?_⟩
  simp[go_sem,f0,i1]
 case s3=>
  refine Qc (v:=(pt b 0)) (λ av wv hE hS hO hD=>?_) (λ _=>rfl)
  have f7:=QEf av 7 (pt b 0) (hD.1 rfl _ rfl)
  refine⟨rfl,?_⟩
  simp[go_sem,f7,i1]
 case s4=>
  refine Qc (v:=(pt b 2)) (λ av wv hE hS hO hD=>?_) (λ _=>rfl)
  have f8:=QEf av 8 (pt b 0) (hD.1 rfl _ rfl)
  refine⟨rfl,?_⟩
  simp[go_sem,f8,i1]
 case s5=>
  refine Qc (v:=(.int .i64 most)) (λ av wv hE hS hO hD=>?_) (λ _=>rfl)
  have f9:=QEf av 9 (pt b 2) (hD.1 rfl _ rfl);have d0:=Qd hE (by simp) d0;have c2:=Qd hE (by simp) c2
  refine⟨rfl,?_⟩
  simp[go_sem,f9,d0,c2,i1]
 case s6=>
  refine Qc (v:=(.int .u64 most)) (λ av wv hE hS hO hD=>?_) (λ _=>rfl)
  have f10:=QEf av 10 (.int .i64 most) (hD.1 rfl _ rfl)
  refine⟨rfl,?_⟩
  simp[go_sem,f10,i1]
 case s7=>
  refine Qc (v:=(.bool x)) (λ av wv hE hS hO hD=>?_) (λ _=>rfl)
  have f6:=QEf av 6 (.int .u64 n) (hD.1 rfl _ rfl);have f11:=QEf av 11 (.int .u64 most) (hD.2.1 rfl _ rfl)
  refine⟨rfl,?_⟩
  simp[go_sem,f6,f11,hx]
 intro a' w' hE hO hall
 have hA:=Ql (ds:=[5,6,7,8,9,10,11,12]) rfl hO (by kernel_rfl);have e5:a'.eval (.tmp 5)=(pt w.heap.size 0):=hall.1 _ rfl;have e6:a'.eval (.tmp 6)=(.int .u64 n):=hall.2.1 _ rfl;have e7:a'.eval (.tmp 7)=(pt b 0):=hall.2.2.1 _ rfl;have e8:a'.eval (.tmp 8)=(pt b 0):=hall.2.2.2.1 _ rfl;have e9:a'.eval (.tmp 9)=(pt b 2):=hall.2.2.2.2.1 _ rfl;have e10:a'.eval (.tmp 10)=(.int .i64 most):=hall.2.2.2.2.2.1 _ rfl;have e11:a'.eval (.tmp 11)=(.int .u64 most):=hall.2.2.2.2.2.2.1 _ rfl;have e12:a'.eval (.tmp 12)=(.bool x):=hall.2.2.2.2.2.2.2.1 _ rfl
 simp only[List.foldl_cons,List.foldl_nil,Act.put,List.setIfInBounds_toArray,List.set_cons_succ,List.set_cons_zero,e5,e6,e7,e8,e9,e10,e11,e12]at hA
 clear hO hall e5 e6 e7 e8 e9 e10 e11 e12
 subst hA
 have B:=QLh (Qk WB.out (Qx hE));have X0:=QLh (Qn hE (by simp) W0.out);have X1:=QLh (Qn hE (by simp) W1.out);have HX:=QLh hx;clear hE c2 d0 hx;have x0:w'.cell? ⟨w.heap.size,0,none⟩=some (.int .u64 n):=Qa X0.out 0;have x1:w'.cell? ⟨w.heap.size,1,none⟩=some (.string rest):=Qa X0.out 1;have y0:∀o,w'.cell? ⟨w.heap.size+1,o,none⟩=_:=Qa X1.out;have y1:∀o,w'.frozen? ⟨w.heap.size+1,o,none⟩=false:=Qj X1.out
 cases x
 ·go_wp2
  refine bodyPost_ret (v:=.agg #[.int .u64 n,.string rest]) (by simp[results,Tryz.results259,go_sem,y0]) rfl ?_
  have:Qa1 n most rest=.ok (n,rest):=by unfold Qa1;rw[if_neg (by simpa using HX.out)]
  rw[this]
  exact⟨(by have:=B.out;(repeat (first | exact Below.refl _ _ | assumption | (refine Zd ?_) | (refine Zc ?_ _) | (refine Qh ?_ _) | (refine Zs ?_ (by first | omega | (simp;done) | (simp;omega)) _) | (refine Qk ?_ (by assumption))))),rfl⟩
 ·go_wp2_with fail
  refine(Qbk 3 _).mono ?_
  rintro e w1 ⟨rfl,rfl⟩
  go_wp2
  have:Qa1 n most rest=.error 3:=by unfold Qa1;rw[if_pos (by simpa using HX.out)]
  rw[this]
  exact⟨rfl,B.out,rfl⟩
theorem Qgr(w:World)(b:Nat)(s:ByteArray)(a left most:Int)(h:RdB w b s a most)(hs:s.size≤9223372036854775807)(l0:0≤left)(l1:left≤s.size):
  Calls Tryz.prog 226 #[pt b 0,.int .i64 left] w λ e w'=>e=.returned (.tuple #[])∧w'=w.setCell ⟨b,1,none⟩ (.int .i64 (s.size - left)):=by
 have c0:w.cell? ⟨b,0,none⟩=some (.string s):=Qa h 0;have c1:w.cell? ⟨b,1,none⟩=some (.int .i64 a):=Qa h 1;have c2:w.frozen? ⟨b,1,none⟩=false:=Qj h 1;clear h
 go_enter Tryz.func226,Tryz.ntmps226
 go_wp2
 go_end0
 exact⟨rfl,rfl⟩
theorem Qh9(p q x:Value):#[p,q]++((Array.replicate 24 undef).setIfInBounds 5 x).setIfInBounds 2 x=#[p,q,undef,undef,x,undef,undef,x,undef,undef,undef,undef,undef,undef,undef,undef,undef,undef,undef,undef,undef,undef,undef,undef,undef,undef]:=by
 simp[Array.replicate,List.replicate]
theorem Qdy(p q:Value)(w:World):
  CallsD Tryz.prog 223 #[p,q] .returning w λ e u' w'=>e=.returned (.tuple #[])∧u'=.returning∧w'=w:=by
 refine callsD_of_wpS Tryz.func223 rfl λ c₀ cs hu=>?_
 apply wpS_seq
 apply wpS_region
 simp[wpOpsS,go_sem,recoverD,hu,Tryz.ntmps223,Exit.thenS]
 refine wpS_of_wp ?_
 obtain⟨Q,hQ⟩:∃Q:Exit→Act→World→Prop,(λ e a' w'=>bodyPostS Tryz.prog Tryz.f223 c₀ cs (λ e u' w'=>e=Ending.returned (.tuple #[])∧u'=.returning∧w'=w) e a' (c₀ :: cs) w')=Q:=⟨_,rfl⟩
 rw[hQ,Qh9]
 have HQ:=QLh hQ;clear hQ
 go_wp2
 rw[←HQ.out]
 simp[bodyPostS,results,Tryz.results223]
 cases c₀;simp_all
theorem Ql4(k:Int)(w:World):(Instr.typeAssert (.iface 30 (.int .i64 k)) 20 30 true).run Tryz.prog w=.ok (.tuple #[.int .i64 k,.bool true]) w:=by kernel_rfl
theorem Qjz(k:Int)(older:List PanicEntry)(p:Value)(a:Int)(eb:Nat)(x:Value)(w:World)(hp:Calls Tryz.prog 256 #[p] w λ e w'=>e=.returned (.int .i64 a)∧w'=w)
  (hc:w.cell? ⟨eb,0,none⟩=some x) (hx:x.oneCell'=true) (hz:w.frozen? ⟨eb,0,none⟩=false):
  CallsD Tryz.prog 223 #[p,pt eb 0] (.panicking ({ v:=.iface 30 (.int .i64 k),recovered:=false } :: older)) w λ e u' w'=>
   e=.returned (.tuple #[])∧u'=.panicking ({ v:=.iface 30 (.int .i64 k),recovered:=true } :: older)∧
   w'=(w.setCell ⟨eb,0,none⟩ (.iface 127 (pt w.heap.size 0))).alloc (.cells #[.int .i64 k,.int .i64 a] 63):=by
 refine callsD_of_wpS Tryz.func223 rfl λ c₀ cs hu=>?_
 apply wpS_seq
 apply wpS_region
 simp[wpOpsS,go_sem,recoverD,hu,Tryz.ntmps223,Exit.thenS]
 refine wpS_of_wp ?_
 obtain⟨Q,hQ⟩:∃Q:Exit→Act→World→Prop,(λ e a' w'=>bodyPostS Tryz.prog Tryz.f223 c₀ cs (λ e u' w'=>e=Ending.returned (.tuple #[])∧u'=.panicking ({ v:=.iface 30 (.int .i64 k),recovered:=true } :: older)∧w'=(w.setCell ⟨eb,0,none⟩ (.iface 127 (pt w.heap.size 0))).alloc (.cells #[.int .i64 k,.int .i64 a] 63)) e a' ({ c₀ with mode:=.panicking ({ v:=.iface 30 (.int .i64 k),recovered:=true } :: older) } :: cs) w')=Q:=⟨_,rfl⟩
 rw[hQ,Qh9]
 have HQ:=QLh hQ;clear hQ hu;have ha:=Ql4 k;have hl:=Qw hc
 go_wp2_with fail
 refine hp.mono ?_
 rintro e w1 ⟨rfl,rfl⟩
 go_wp2
 rw[←HQ.out]
 exact⟨rfl,_,rfl,.tuple #[],by simp[results,Tryz.results223],rfl,rfl,rfl⟩
theorem Qgs{t:ByteArray}{l:List URow}{n:Int}{rest:ByteArray}(hok:∀i,(Ja l i).Ok)(h:Xa t l=.ok (n,rest)):0≤n∧n≤18446744073709551615∧rest.size<t.size:=by
 unfold Xa at h
 split at h
 ·cases h
 ·next h0=>
  split at h
  ·cases h
  ·next r hr=>
   have hp:=List.find?_some hr
   obtain⟨i,hi,rfl⟩:=List.getElem_of_mem (List.mem_of_find?_eq_some hr)
   have ok:=hok i
   rw[Qeu l i hi]at ok
   simp only[Bool.and_eq_true,decide_eq_true_eq]at hp
   obtain⟨v,hv⟩:∃v,(if l[i].size=0 then Qai t 0 - l[i].lo else be t l[i].size.toNat)=v:=⟨_,rfl⟩
   simp only[hv]at h
   by_cases h1:(t.size:Int)<1+l[i].size
   ·rw[if_pos h1]at h;cases h
   ·rw[if_neg h1]at h
    by_cases h2:v<l[i].least
    ·rw[if_pos h2]at h;cases h
    ·rw[if_neg h2]at h
     simp only[Except.ok.injEq,Prod.mk.injEq]at h
     obtain⟨rfl,rfl⟩:=h
     have vb:=Qhm (s:=t) (r:=l[i]) (j:=l[i].size.toNat) (by have:=ok.sz1;have:=ok.sz0;omega) ok hp.1
     unfold J8 at vb
     rw[hv]at vb
     refine⟨vb.1,vb.2,?_⟩
     rw[ByteArray.size_extract];omega
def Qeg(res:Except Int (Value × Nat))(zero:Value)(b:Nat)(s:ByteArray)(most:Int)(a:Nat)(w:World)(e:Ending)(w':World):Prop:=
 Jg (some b) w w'∧match res with
  | .ok x=>e=.returned (.tuple #[x.1,.nilIface])∧RdB w' b s x.2 most
  | .error k=>RdB w' b s a most∧∃f,e=.returned (.tuple #[zero,.iface 127 (pt f 0)])∧w.heap.size≤f∧w'.heap[f]?=some (.cells #[.int .i64 k,.int .i64 a] 63 (0,0))
def Qbc(s:ByteArray)(a:Nat)(most:Int)(l:List URow):Except Int (Value × Nat):=
 match Xa (s.extract a s.size) l with
 | .error k=>.error k
 | .ok (n,rest)=>if most<n then .error 3 else if(rest.size:Int)<n then .error 4 else .ok (.string (rest.extract 0 n.toNat),s.size - (rest.size - n.toNat))
def Qad(s:ByteArray)(a:Nat)(most:Int)(l:List URow):Except Int (Value × Nat):=
 match Xa (s.extract a s.size) l with
 | .error k=>.error k
 | .ok (n,rest)=>if most<n then .error 3 else .ok (.int .i64 n,s.size - rest.size)
def Qku(s:ByteArray)(a:Nat)(l:List URow):Except Int (Value × Nat):=
 match Xa (s.extract a s.size) l with
 | .error k=>.error k
 | .ok (n,rest)=>.ok (.int .u64 n,s.size - rest.size)
theorem Qdz{w w1 w':World}{b:Nat}(h:Below w.heap.size w w1)(hE:Jg (some w.heap.size) w1 w'):Jg (some b) w w':=
 ⟨hE.os.trans h.os,hE.tape.trans h.tape,hE.output.trans h.output,Nat.le_trans h.size hE.size,λ i hi _=>(hE.block i (Nat.lt_of_lt_of_le hi h.size) (by intro e;cases e;omega)).trans (h.block i hi)⟩
theorem Qn1{w w1:World}{b eb:Nat}(h:Jg (some b) w w1)(he:w.heap.size≤eb)(v:Value):Jg (some b) w (w1.setCell ⟨eb,0,none⟩ v):=
 ⟨h.os,h.tape,h.output,by simpa using h.size,λ i hi hn=>by rw[Below.heap_setCell _ _ _ _ (by show i≠eb;omega)];exact h.block i hi hn⟩
theorem Qd0{fn:Func}{tmps:Array Value}{R:Ending→World→Prop}(k:Int)(b:Nat)(s:ByteArray)(a:Nat)(most:Int)(w1:World)(eb:Nat)(zero:Value)(h:RdB w1 b s a most)
  (he:w1.heap[eb]?=some (.cells #[.nilIface] 59 (0,0))) (hne:eb≠b)
  (hr:∀w:World,w.cell? ⟨eb,0,none⟩=some (.iface 127 (pt w1.heap.size 0))→(results fn tmps).run Tryz.prog w=.ok (.tuple #[zero,.iface 127 (pt w1.heap.size 0)]) w)
  (hR:∀w':World,Jg (some eb) w1 w'→RdB w' b s a most→w'.heap[w1.heap.size]?=some (.cells #[.int .i64 k,.int .i64 a] 63 (0,0))→R (.returned (.tuple #[zero,.iface 127 (pt w1.heap.size 0)])) w'):
  Leaves Tryz.prog fn tmps R [{ target:=.fn (.func 223) #[],args:=#[pt b 0,pt eb 0] }] (.panicking (Qgp k)) w1:=by
 refine leaves_cons (f:=223) (args:=#[pt b 0,pt eb 0]) (by simp) (by simp[go_sem]) ?_
 refine(Qjz k [] (pt b 0) a eb .nilIface w1 (Ql2 w1 b s a most h) (Qa he 0) rfl (Qj he 0)).mono ?_
 rintro e u' w'' ⟨rfl,rfl,rfl⟩
 have hl:=lt_of_block he;have hs:(w1.setCell ⟨eb,0,none⟩ (.iface 127 (pt w1.heap.size 0))).heap.size=w1.heap.size:=by simp
 have hb0:(w1.setCell ⟨eb,0,none⟩ (.iface 127 (pt w1.heap.size 0))).heap[eb]?=_:=Qb he _;have hb:=Qf hb0 (.cells #[.int .i64 k,.int .i64 a] 63)
 refine⟨_,hr _ (Qa hb 0),hR _ ?_ ?_ ?_⟩
 ·refine⟨rfl,rfl,rfl,by simp,λ i hi hn=>?_⟩
  rw[Below.heap_alloc _ _ _ (by rw[hs];exact hi),Below.heap_setCell _ _ _ _ (by intro e;subst e;exact hn rfl)]
 ·exact Qf (Qg h (by exact λ e=>hne e.symm) _) _
 ·exact Qi _ hs
theorem Qo9(w:World)(b:Nat)(s:ByteArray)(a:Nat)(most:Int)(ra:Option Addr)(rc:Nat)(l:List URow)(h:RdB w b s a most)(ha:a≤s.size)(hs:s.size≤9223372036854775807)(hm0:0≤most)(hm1:most≤9223372036854775807)
  (hl0:0<len l) (hl:len l≤100) (hc:URows w ra l) (hok:∀i,(Ja l i).Ok):
  Calls Tryz.prog 244 #[pt b 0,.slice ra (len l) rc] w (Qeg (Qbc s a most l) (.string ⟨#[]⟩) b s most a w):=by
 have HC:=QLh hc;have HO:=QLh hok;have H:=QLh h;have hbl:=lt_of_block h;clear hc hok h
 go_enter_defers Tryz.func244,Tryz.ntmps244
 go_wp2_with fail
 obtain⟨W,hW⟩:∃W,w.alloc (.cells #[.nilIface] 59)=W:=⟨_,rfl⟩
 have WB:Hid (Below w.heap.size w W):=QLh (by rw[←hW];(repeat (first | exact Below.refl _ _ | assumption | (refine Zd ?_) | (refine Zc ?_ _) | (refine Qh ?_ _) | (refine Zs ?_ (by first | omega | (simp;done) | (simp;omega)) _) | (refine Qk ?_ (by assumption)))))
 have W0:Hid (W.heap[w.heap.size]?=some (.cells #[.nilIface] 59 (0,0))):=QLh (by rw[←hW];(repeat (first | exact Qi _ (by repeat (first | rfl | refine Z1 _ ?_)) | refine Qf ?_ _)))
 rw[hW]
 clear hW
 refine(Qfj W b s a most (H.out.below WB.out) ha hs).mono ?_
 rintro e w1 ⟨rfl,hb1⟩
 have B1:=QLh hb1;clear hb1
 go_wp2_with fail
 have hts:(s.extract a s.size).size≤9223372036854775807:=by rw[ByteArray.size_extract];omega
 refine(Qhn (s.extract a s.size) ra rc l w1 hts hl0 hl (HC.out.below (Qk WB.out B1.out)) HO.out).mono ?_
 intro e w2 hh
 cases hres:Xa (s.extract a s.size) l with
 | error k=>
  rw[hres]at hh
  obtain⟨rfl,hb2⟩:=Qch hh
  have B2:=QLh (Qk B1.out hb2);have T:Hid (Qbc s a most l=.error k):=QLh (by unfold Qbc;rw[hres]);clear hh hb2 hres
  go_wp2
  rw[T.out]
  refine Qd0 k b s a most w2 w.heap.size (.string ⟨#[]⟩) (H.out.below (Qk WB.out B2.out)) ((B2.out.block _ (lt_of_block W0.out)).trans W0.out) (by omega) (λ w hc=>by simp[results,Tryz.results244,go_sem,hc]) (λ w' hE hR hf=>?_)
  have hz:=(Qk WB.out B2.out).size
  exact⟨Qdz (Qk WB.out B2.out) hE,hR,_,rfl,hz,hf⟩
 | ok x=>
  obtain⟨n,rest⟩:=x
  rw[hres]at hh
  obtain⟨rfl,hb2⟩:=Qdl hh
  have B2:=QLh (Qk B1.out hb2)
  obtain⟨n0,n1,hrest⟩:=Qgs HO.out hres
  have HRES:=QLh hres;have hrs:rest.size<(s.extract a s.size).size:=hrest;have hss:(s.extract a s.size).size=s.size - a:=by rw[ByteArray.size_extract];omega
  have hr2:rest.size<s.size - a:=by omega
  clear hh hb2 hres hrest hts hss hrs
  go_wp2_with fail
  refine(Ql3 w2 b s rest a most n (H.out.below (Qk WB.out B2.out)) hm0 hm1).mono ?_
  intro e w3 hh
  by_cases hmn:most<n
  ·have hbo:Qa1 n most rest=.error 3:=by unfold Qa1;rw[if_pos hmn]
   rw[hbo]at hh
   obtain⟨rfl,hb3⟩:=Qch hh
   have B3:=QLh (Qk B2.out hb3);have T:Hid (Qbc s a most l=.error 3):=QLh (by unfold Qbc;rw[HRES.out];exact if_pos hmn);clear hh hb3 hbo
   go_wp2
   rw[T.out]
   refine Qd0 3 b s a most w3 w.heap.size (.string ⟨#[]⟩) (H.out.below (Qk WB.out B3.out)) ((B3.out.block _ (lt_of_block W0.out)).trans W0.out) (by omega) (λ w hc=>by simp[results,Tryz.results244,go_sem,hc]) (λ w' hE hR hf=>?_)
   have hz:=(Qk WB.out B3.out).size
   exact⟨Qdz (Qk WB.out B3.out) hE,hR,_,rfl,hz,hf⟩
  ·have hbo:Qa1 n most rest=.ok (n,rest):=by unfold Qa1;rw[if_neg hmn]
   rw[hbo]at hh
   obtain⟨rfl,hb3⟩:=Qdl hh
   have B3:=QLh (Qk B2.out hb3);clear hh hb3 hbo
   obtain⟨q,hq⟩:∃q:Nat,n=q:=⟨n.toNat,by omega⟩
   subst hq
   have i1:IntKind.u64.wrap (rest.size:Int)=rest.size:=IntWalk.u64_in _ (by omega);have i2:IntKind.i64.wrap (q:Int)=q:=IntWalk.i64_in _ (by omega)
   by_cases hrq:rest.size<q
   ·have T:Hid (Qbc s a most l=.error 4):=QLh (by
     unfold Qbc;rw[HRES.out]
     show(if most<(q:Int)then _ else _)=_
     rw[if_neg hmn,if_pos (by omega)])
    have t1:(rest.size:Int)<q:=by omega
    go_wp2_with fail
    refine(Qbk 4 _).mono ?_
    rintro e w4 ⟨rfl,hw4⟩
    have B4:Hid (Below W.heap.size W w4):=QLh (by rw[hw4];exact Qh B3.out _);clear hw4
    go_wp2
    rw[T.out]
    refine Qd0 4 b s a most w4 w.heap.size (.string ⟨#[]⟩) (H.out.below (Qk WB.out B4.out)) ((B4.out.block _ (lt_of_block W0.out)).trans W0.out) (by omega) (λ w hc=>by simp[results,Tryz.results244,go_sem,hc]) (λ w' hE hR hf=>?_)
    have hz:=(Qk WB.out B4.out).size
    exact⟨Qdz (Qk WB.out B4.out) hE,hR,_,rfl,hz,hf⟩
   ·have T:Hid (Qbc s a most l=.ok (.string (rest.extract 0 q),s.size - (rest.size - q))):=QLh (by
     unfold Qbc;rw[HRES.out]
     show(if most<(q:Int)then _ else _)=_
     rw[if_neg hmn,if_neg (by omega)];rfl)
    have t1:¬(rest.size:Int)<q:=by omega
    have hb3:b<w3.heap.size:=Nat.lt_of_lt_of_le hbl (Qk WB.out B3.out).size;have he3:w.heap.size<w3.heap.size:=Nat.lt_of_lt_of_le (lt_of_block W0.out) B3.out.size
    go_wp2_with fail
    refine(Qgr _ b s a (rest.size - q) most (Qf (H.out.below (Qk WB.out B3.out)) _) hs (by omega) (by omega)).mono ?_
    rintro e w5 ⟨rfl,hw5⟩
    have R5:Hid (RdB w5 b s ((s.size - (rest.size - q):Nat):Int) most):=QLh (by
     rw[hw5]
     have h:=Qb (Qf (H.out.below (Qk WB.out B3.out)) (.cells #[.int .u64 q,.string rest] 311)) (o:=1) (.int .i64 ((s.size:Int) - (rest.size - q)))
     rw[show((s.size - (rest.size - q):Nat):Int)=(s.size:Int) - (rest.size - q)by omega]
     exact h)
    have E5:w5.heap[w.heap.size]?=some (.cells #[.nilIface] 59 (0,0)):=by
     rw[hw5];exact Qg (Qf ((B3.out.block _ (lt_of_block W0.out)).trans W0.out) _) (by show w.heap.size≠b;omega) _
    have N5:w5.heap[w3.heap.size]?=some (.cells #[.int .u64 q,.string rest] 311 (0,0)):=by
     rw[hw5];exact Qg (Qi _ rfl) (by show w3.heap.size≠b;omega) _
    have X5:Hid (Jg (some b) w w5):=QLh (by
     rw[hw5]
     have hB:=Qh (Qk WB.out B3.out) (.cells #[.int .u64 q,.string rest] 311)
     exact⟨hB.os,hB.tape,hB.output,by simpa using hB.size,λ i hi hn=>by rw[Below.heap_setCell _ _ _ _ (by exact λ e=>hn (by rw[e]))];exact hB.block i hi⟩)
    have a0:w5.cell? ⟨w3.heap.size,0,none⟩=some (.int .u64 q):=Qa N5 0;have a1:w5.cell? ⟨w3.heap.size,1,none⟩=some (.string rest):=Qa N5 1;have a2:w5.cell? ⟨w.heap.size,0,none⟩=some .nilIface:=Qa E5 0;have a3:w5.frozen? ⟨w.heap.size,0,none⟩=false:=Qj E5 0;have hz5:=lt_of_block E5;have qr:q≤rest.size:=by omega
    clear hw5 E5 N5
    go_wp2
    rw[T.out]
    refine leaves_cons (f:=223) (args:=#[pt b 0,pt w.heap.size 0]) (by simp) (by simp[go_sem]) ?_
    refine(Qdy (pt b 0) (pt w.heap.size 0) _).mono ?_
    rintro e u' w'' ⟨rfl,rfl,rfl⟩
    refine⟨_,by simp[results,Tryz.results244,go_sem,a2];rfl,?_⟩
    refine⟨?_,rfl,?_⟩
    ·exact Qn1 X5.out (Nat.le_refl _) _
    ·exact Qg R5.out (by show b≠w.heap.size;omega) _
theorem Ql5(w:World)(b:Nat)(s:ByteArray)(a:Nat)(most:Int)(ra:Option Addr)(rc:Nat)(l:List URow)(h:RdB w b s a most)(ha:a≤s.size)(hs:s.size≤9223372036854775807)(hm0:0≤most)(hm1:most≤9223372036854775807)
  (hl0:0<len l) (hl:len l≤100) (hc:URows w ra l) (hok:∀i,(Ja l i).Ok):
  Calls Tryz.prog 243 #[pt b 0,.slice ra (len l) rc] w (Qeg (Qad s a most l) (.int .i64 0) b s most a w):=by
 have HC:=QLh hc;have HO:=QLh hok;have H:=QLh h;have hbl:=lt_of_block h;clear hc hok h
 go_enter_defers Tryz.func243,Tryz.ntmps243
 go_wp2_with fail
 obtain⟨W,hW⟩:∃W,w.alloc (.cells #[.nilIface] 59)=W:=⟨_,rfl⟩
 have WB:Hid (Below w.heap.size w W):=QLh (by rw[←hW];(repeat (first | exact Below.refl _ _ | assumption | (refine Zd ?_) | (refine Zc ?_ _) | (refine Qh ?_ _) | (refine Zs ?_ (by first | omega | (simp;done) | (simp;omega)) _) | (refine Qk ?_ (by assumption)))))
 have W0:Hid (W.heap[w.heap.size]?=some (.cells #[.nilIface] 59 (0,0))):=QLh (by rw[←hW];(repeat (first | exact Qi _ (by repeat (first | rfl | refine Z1 _ ?_)) | refine Qf ?_ _)))
 rw[hW]
 clear hW
 refine(Qfj W b s a most (H.out.below WB.out) ha hs).mono ?_
 rintro e w1 ⟨rfl,hb1⟩
 have B1:=QLh hb1;clear hb1
 go_wp2_with fail
 have hts:(s.extract a s.size).size≤9223372036854775807:=by rw[ByteArray.size_extract];omega
 refine(Qhn (s.extract a s.size) ra rc l w1 hts hl0 hl (HC.out.below (Qk WB.out B1.out)) HO.out).mono ?_
 intro e w2 hh
 cases hres:Xa (s.extract a s.size) l with
 | error k=>
  rw[hres]at hh
  obtain⟨rfl,hb2⟩:=Qch hh
  have B2:=QLh (Qk B1.out hb2);have T:Hid (Qad s a most l=.error k):=QLh (by unfold Qad;rw[hres]);clear hh hb2 hres
  go_wp2
  rw[T.out]
  refine Qd0 k b s a most w2 w.heap.size (.int .i64 0) (H.out.below (Qk WB.out B2.out)) ((B2.out.block _ (lt_of_block W0.out)).trans W0.out) (by omega) (λ w hc=>by simp[results,Tryz.results243,go_sem,hc]) (λ w' hE hR hf=>?_)
  have hz:=(Qk WB.out B2.out).size
  exact⟨Qdz (Qk WB.out B2.out) hE,hR,_,rfl,hz,hf⟩
 | ok x=>
  obtain⟨n,rest⟩:=x
  rw[hres]at hh
  obtain⟨rfl,hb2⟩:=Qdl hh
  have B2:=QLh (Qk B1.out hb2)
  obtain⟨n0,n1,hrest⟩:=Qgs HO.out hres
  have HRES:=QLh hres;have hrs:rest.size<(s.extract a s.size).size:=hrest;have hss:(s.extract a s.size).size=s.size - a:=by rw[ByteArray.size_extract];omega
  have hr2:rest.size<s.size - a:=by omega
  clear hh hb2 hres hrest hts hss hrs
  go_wp2_with fail
  refine(Ql3 w2 b s rest a most n (H.out.below (Qk WB.out B2.out)) hm0 hm1).mono ?_
  intro e w3 hh
  by_cases hmn:most<n
  ·have hbo:Qa1 n most rest=.error 3:=by unfold Qa1;rw[if_pos hmn]
   rw[hbo]at hh
   obtain⟨rfl,hb3⟩:=Qch hh
   have B3:=QLh (Qk B2.out hb3);have T:Hid (Qad s a most l=.error 3):=QLh (by unfold Qad;rw[HRES.out];exact if_pos hmn);clear hh hb3 hbo
   go_wp2
   rw[T.out]
   refine Qd0 3 b s a most w3 w.heap.size (.int .i64 0) (H.out.below (Qk WB.out B3.out)) ((B3.out.block _ (lt_of_block W0.out)).trans W0.out) (by omega) (λ w hc=>by simp[results,Tryz.results243,go_sem,hc]) (λ w' hE hR hf=>?_)
   have hz:=(Qk WB.out B3.out).size
   exact⟨Qdz (Qk WB.out B3.out) hE,hR,_,rfl,hz,hf⟩
  ·have hbo:Qa1 n most rest=.ok (n,rest):=by unfold Qa1;rw[if_neg hmn]
   rw[hbo]at hh
   obtain⟨rfl,hb3⟩:=Qdl hh
   have B3:=QLh (Qk B2.out hb3);clear hh hb3 hbo
   obtain⟨q,hq⟩:∃q:Nat,n=q:=⟨n.toNat,by omega⟩
   subst hq
   have i2:IntKind.i64.wrap (q:Int)=q:=IntWalk.i64_in _ (by omega);have T:Hid (Qad s a most l=.ok (.int .i64 q,s.size - rest.size)):=QLh (by
    unfold Qad;rw[HRES.out]
    show(if most<(q:Int)then _ else _)=_
    rw[if_neg hmn])
   have hb3:b<w3.heap.size:=Nat.lt_of_lt_of_le hbl (Qk WB.out B3.out).size;have he3:w.heap.size<w3.heap.size:=Nat.lt_of_lt_of_le (lt_of_block W0.out) B3.out.size
   go_wp2_with fail
   refine(Qgr _ b s a rest.size most (Qf (H.out.below (Qk WB.out B3.out)) _) hs (by omega) (by omega)).mono ?_
   rintro e w5 ⟨rfl,hw5⟩
   have R5:Hid (RdB w5 b s ((s.size - rest.size:Nat):Int) most):=QLh (by
    rw[hw5]
    have h:=Qb (Qf (H.out.below (Qk WB.out B3.out)) (.cells #[.int .u64 q,.string rest] 311)) (o:=1) (.int .i64 ((s.size:Int) - rest.size))
    rw[show((s.size - rest.size:Nat):Int)=(s.size:Int) - rest.size by omega]
    exact h)
   have E5:w5.heap[w.heap.size]?=some (.cells #[.nilIface] 59 (0,0)):=by
    rw[hw5];exact Qg (Qf ((B3.out.block _ (lt_of_block W0.out)).trans W0.out) _) (by show w.heap.size≠b;omega) _
   have N5:w5.heap[w3.heap.size]?=some (.cells #[.int .u64 q,.string rest] 311 (0,0)):=by
    rw[hw5];exact Qg (Qi _ rfl) (by show w3.heap.size≠b;omega) _
   have X5:Hid (Jg (some b) w w5):=QLh (by
    rw[hw5]
    have hB:=Qh (Qk WB.out B3.out) (.cells #[.int .u64 q,.string rest] 311)
    exact⟨hB.os,hB.tape,hB.output,by simpa using hB.size,λ i hi hn=>by rw[Below.heap_setCell _ _ _ _ (by exact λ e=>hn (by rw[e]))];exact hB.block i hi⟩)
   have a0:w5.cell? ⟨w3.heap.size,0,none⟩=some (.int .u64 q):=Qa N5 0;have a2:w5.cell? ⟨w.heap.size,0,none⟩=some .nilIface:=Qa E5 0;have a3:w5.frozen? ⟨w.heap.size,0,none⟩=false:=Qj E5 0;have hz5:=lt_of_block E5;clear hw5 E5 N5
   go_wp2
   rw[T.out]
   refine leaves_cons (f:=223) (args:=#[pt b 0,pt w.heap.size 0]) (by simp) (by simp[go_sem]) ?_
   refine(Qdy (pt b 0) (pt w.heap.size 0) _).mono ?_
   rintro e u' w'' ⟨rfl,rfl,rfl⟩
   refine⟨_,by simp[results,Tryz.results243,go_sem,a2];rfl,?_⟩
   refine⟨?_,rfl,?_⟩
   ·exact Qn1 X5.out (Nat.le_refl _) _
   ·exact Qg R5.out (by show b≠w.heap.size;omega) _
def Qa2:List URow:=[⟨0,127,0,0⟩,⟨204,204,1,128⟩,⟨205,205,2,256⟩,⟨206,206,4,65536⟩,⟨207,207,8,4294967296⟩]
def Ql6:List URow:=[⟨196,196,1,0⟩,⟨197,197,2,256⟩]
def Qjq:List URow:=[⟨160,191,0,0⟩,⟨217,217,1,32⟩,⟨218,218,2,256⟩]
def Qeh:List URow:=[⟨144,159,0,0⟩,⟨220,220,2,16⟩]
def Qei:List URow:=[⟨128,143,0,0⟩,⟨222,222,2,16⟩]
theorem Qfk{l:List URow}(h:(l.all λ r=>decide (0≤r.lo) && decide (r.hi≤255) && decide (0≤r.size) && decide (r.size≤8) && decide (0≤r.least) && decide (r.least≤4294967296))=true):∀i,(Ja l i).Ok:=λ i=>by
 rcases Nat.lt_or_ge i l.length with hi | hi
 ·rw[Qeu l i hi]
  have:=List.all_eq_true.1 h l[i] (List.getElem_mem _)
  simp only[Bool.and_eq_true,decide_eq_true_eq]at this
  obtain⟨⟨⟨⟨⟨a,b⟩,c⟩,d⟩,e⟩,f⟩:=this
  exact⟨a,b,c,d,e,f⟩
 ·have:Ja l i=URow.zero:=by unfold Ja;rw[List.getD_eq_getElem?_getD,List.getElem?_eq_none hi];rfl
  rw[this];exact⟨by decide,by decide,by decide,by decide,by decide,by decide⟩
theorem Qfl:∀i,(Ja Qa2 i).Ok:=Qfk (by decide)
theorem Qho:∀i,(Ja Ql6 i).Ok:=Qfk (by decide)
theorem Qhp:∀i,(Ja Qjq i).Ok:=Qfk (by decide)
theorem Qfm:∀i,(Ja Qeh i).Ok:=Qfk (by decide)
theorem Qfn:∀i,(Ja Qei i).Ok:=Qfk (by decide)
def TabAt(B:Nat)(w:World)(g:Nat)(l:List URow):Prop:=∃tb tq rc,g<B∧tb<B∧B≤w.heap.size∧w.cell? ⟨g,0,none⟩=some (.slice (some ⟨tb,tq,none⟩) (len l) rc)∧URows w (some ⟨tb,tq,none⟩) l
theorem TabAt.ext{B:Nat}{w w':World}{g b:Nat}{l:List URow}(h:TabAt B w g l)(hE:Jg (some b) w w')(hb:B≤b):TabAt B w' g l:=by
 obtain⟨tb,tq,rc,h1,h2,h5,h3,h4⟩:=h
 have e:∀x o,x<B→w'.cell? ⟨x,o,none⟩=w.cell? ⟨x,o,none⟩:=λ x o hx=>World.cell?_of_block (w:=w) (hE.block x (by omega) (by intro e;cases e;omega))
 refine⟨tb,tq,rc,h1,h2,Nat.le_trans h5 hE.size,by rw[e g 0 h1];exact h3,λ i hi=>?_⟩
 obtain⟨b',off',e2,⟨c0,c1,c2,c3⟩⟩:=h4 i hi
 cases e2
 exact⟨tb,tq,rfl,by rw[e tb _ h2];exact c0,by rw[e tb _ h2];exact c1,by rw[e tb _ h2];exact c2,by rw[e tb _ h2];exact c3⟩
theorem X2{w w':World}(h:Below w.heap.size w w')(b:Nat):Jg (some b) w w':=⟨h.os,h.tape,h.output,h.size,λ i hi _=>h.block i hi⟩
theorem TabAt.below{B:Nat}{w w':World}{g:Nat}{l:List URow}(h:TabAt B w g l)(hb:Below w.heap.size w w'):TabAt B w' g l:=by
 obtain⟨tb,tq,rc,h1,h2,h5,h3,h4⟩:=h
 exact TabAt.ext ⟨tb,tq,rc,h1,h2,h5,h3,h4⟩ (X2 hb B) (Nat.le_refl _)
structure Tabs(B:Nat)(w:World):Prop where
 nums:TabAt B w 1 Qa2
 lists:TabAt B w 6 Qeh
 bins:TabAt B w 5 Ql6
 strs:TabAt B w 3 Qjq
 pairs:TabAt B w 2 Qei
theorem Tabs.below{B:Nat}{w w':World}(h:Tabs B w)(hb:Below w.heap.size w w'):Tabs B w':=⟨h.nums.below hb,h.lists.below hb,h.bins.below hb,h.strs.below hb,h.pairs.below hb⟩
theorem Qx7(w:World)(B b:Nat)(s:ByteArray)(a:Nat)(most:Int)(ht:Tabs B w)(h:RdB w b s a most)(ha:a≤s.size)(hs:s.size≤9223372036854775807)(hm0:0≤most)(hm1:most≤9223372036854775807):
  Calls Tryz.prog 241 #[pt b 0] w (Qeg (Qbc s a most Ql6) (.string ⟨#[]⟩) b s most a w):=by
 obtain⟨tb,tq,rc,-,-,-,cg,hrow⟩:=ht.bins
 have HC:=QLh hrow;have H:=QLh h;clear ht hrow h
 go_enter Tryz.func241,Tryz.ntmps241
 go_wp2_with fail
 refine(Qo9 w b s a most (some ⟨tb,tq,none⟩) rc Ql6 H.out ha hs hm0 hm1 (by decide) (by decide) HC.out Qho).mono ?_
 intro e w1 hh
 clear cg
 obtain⟨hE,hm⟩:=hh
 have HE:=QLh hE
 cases hres:Qbc s a most Ql6 with
 | error k=>
  rw[hres]at hm
  obtain⟨hR,f,rfl,hf,hb⟩:=hm
  have HR:=QLh hR;have HB:=QLh hb;have HRES:=QLh hres;clear hR hb hE hres
  go_wp2
  go_ret2
  rw[HRES.out]
  exact⟨HE.out,HR.out,f,rfl,hf,HB.out⟩
 | ok x=>
  rw[hres]at hm
  obtain⟨rfl,hR⟩:=hm
  have HR:=QLh hR;have HRES:=QLh hres;clear hR hE hres
  go_wp2
  go_ret2
  rw[HRES.out]
  exact⟨HE.out,rfl,HR.out⟩
theorem Qx8(w:World)(B b:Nat)(s:ByteArray)(a:Nat)(most:Int)(ht:Tabs B w)(h:RdB w b s a most)(ha:a≤s.size)(hs:s.size≤9223372036854775807)(hm0:0≤most)(hm1:most≤9223372036854775807):
  Calls Tryz.prog 201 #[pt b 0] w (Qeg (Qbc s a most Qjq) (.string ⟨#[]⟩) b s most a w):=by
 obtain⟨tb,tq,rc,-,-,-,cg,hrow⟩:=ht.strs
 have HC:=QLh hrow;have H:=QLh h;clear ht hrow h
 go_enter Tryz.func201,Tryz.ntmps201
 go_wp2_with fail
 refine(Qo9 w b s a most (some ⟨tb,tq,none⟩) rc Qjq H.out ha hs hm0 hm1 (by decide) (by decide) HC.out Qhp).mono ?_
 intro e w1 hh
 clear cg
 obtain⟨hE,hm⟩:=hh
 have HE:=QLh hE
 cases hres:Qbc s a most Qjq with
 | error k=>
  rw[hres]at hm
  obtain⟨hR,f,rfl,hf,hb⟩:=hm
  have HR:=QLh hR;have HB:=QLh hb;have HRES:=QLh hres;clear hR hb hE hres
  go_wp2
  go_ret2
  rw[HRES.out]
  exact⟨HE.out,HR.out,f,rfl,hf,HB.out⟩
 | ok x=>
  rw[hres]at hm
  obtain⟨rfl,hR⟩:=hm
  have HR:=QLh hR;have HRES:=QLh hres;clear hR hE hres
  go_wp2
  go_ret2
  rw[HRES.out]
  exact⟨HE.out,rfl,HR.out⟩
theorem Qvi(w:World)(B b:Nat)(s:ByteArray)(a:Nat)(most:Int)(ht:Tabs B w)(h:RdB w b s a most)(ha:a≤s.size)(hs:s.size≤9223372036854775807)(hm0:0≤most)(hm1:most≤9223372036854775807):
  Calls Tryz.prog 254 #[pt b 0] w (Qeg (Qad s a most Qeh) (.int .i64 0) b s most a w):=by
 obtain⟨tb,tq,rc,-,-,-,cg,hrow⟩:=ht.lists
 have HC:=QLh hrow;have H:=QLh h;clear ht hrow h
 go_enter Tryz.func254,Tryz.ntmps254
 go_wp2_with fail
 refine(Ql5 w b s a most (some ⟨tb,tq,none⟩) rc Qeh H.out ha hs hm0 hm1 (by decide) (by decide) HC.out Qfm).mono ?_
 intro e w1 hh
 clear cg
 obtain⟨hE,hm⟩:=hh
 have HE:=QLh hE
 cases hres:Qad s a most Qeh with
 | error k=>
  rw[hres]at hm
  obtain⟨hR,f,rfl,hf,hb⟩:=hm
  have HR:=QLh hR;have HB:=QLh hb;have HRES:=QLh hres;clear hR hb hE hres
  go_wp2
  go_ret2
  rw[HRES.out]
  exact⟨HE.out,HR.out,f,rfl,hf,HB.out⟩
 | ok x=>
  rw[hres]at hm
  obtain⟨rfl,hR⟩:=hm
  have HR:=QLh hR;have HRES:=QLh hres;clear hR hE hres
  go_wp2
  go_ret2
  rw[HRES.out]
  exact⟨HE.out,rfl,HR.out⟩
theorem Qx9(w:World)(B b:Nat)(s:ByteArray)(a:Nat)(most:Int)(ht:Tabs B w)(h:RdB w b s a most)(ha:a≤s.size)(hs:s.size≤9223372036854775807)(hm0:0≤most)(hm1:most≤9223372036854775807):
  Calls Tryz.prog 199 #[pt b 0] w (Qeg (Qad s a most Qei) (.int .i64 0) b s most a w):=by
 obtain⟨tb,tq,rc,-,-,-,cg,hrow⟩:=ht.pairs
 have HC:=QLh hrow;have H:=QLh h;clear ht hrow h
 go_enter Tryz.func199,Tryz.ntmps199
 go_wp2_with fail
 refine(Ql5 w b s a most (some ⟨tb,tq,none⟩) rc Qei H.out ha hs hm0 hm1 (by decide) (by decide) HC.out Qfn).mono ?_
 intro e w1 hh
 clear cg
 obtain⟨hE,hm⟩:=hh
 have HE:=QLh hE
 cases hres:Qad s a most Qei with
 | error k=>
  rw[hres]at hm
  obtain⟨hR,f,rfl,hf,hb⟩:=hm
  have HR:=QLh hR;have HB:=QLh hb;have HRES:=QLh hres;clear hR hb hE hres
  go_wp2
  go_ret2
  rw[HRES.out]
  exact⟨HE.out,HR.out,f,rfl,hf,HB.out⟩
 | ok x=>
  rw[hres]at hm
  obtain⟨rfl,hR⟩:=hm
  have HR:=QLh hR;have HRES:=QLh hres;clear hR hE hres
  go_wp2
  go_ret2
  rw[HRES.out]
  exact⟨HE.out,rfl,HR.out⟩
theorem Qya(w:World)(B b:Nat)(s:ByteArray)(a:Nat)(most:Int)(ht:Tabs B w)(h:RdB w b s a most)(ha:a≤s.size)(hs:s.size≤9223372036854775807):
  Calls Tryz.prog 152 #[pt b 0] w (Qeg (Qku s a Qa2) (.int .u64 0) b s most a w):=by
 obtain⟨tb,tq,rc,-,-,-,cg,hrow⟩:=ht.nums
 have hgl:=Qw cg;have HC0:=QLh hrow;have H:=QLh h;have hbl:=lt_of_block h;have HG:=QLh cg;clear ht hrow h cg
 go_enter_defers Tryz.func152,Tryz.ntmps152
 go_wp2
 obtain⟨W,hW⟩:∃W,w.alloc (.cells #[.nilIface] 59)=W:=⟨_,rfl⟩
 have WB:Hid (Below w.heap.size w W):=QLh (by rw[←hW];(repeat (first | exact Below.refl _ _ | assumption | (refine Zd ?_) | (refine Zc ?_ _) | (refine Qh ?_ _) | (refine Zs ?_ (by first | omega | (simp;done) | (simp;omega)) _) | (refine Qk ?_ (by assumption)))))
 have W0:Hid (W.heap[w.heap.size]?=some (.cells #[.nilIface] 59 (0,0))):=QLh (by rw[←hW];(repeat (first | exact Qi _ (by repeat (first | rfl | refine Z1 _ ?_)) | refine Qf ?_ _)))
 rw[hW]
 clear hW;have RB:=QLh (H.out.below WB.out);have HC:=QLh (HC0.out.below WB.out);have cg:W.cell? ⟨1,0,none⟩=some (.slice (some ⟨tb,tq,none⟩) (len Qa2) rc):=by rw[WB.out.cell (p:=⟨1,0,none⟩) hgl];exact HG.out
 have hzW:=lt_of_block W0.out;have hts:(s.extract a s.size).size≤9223372036854775807:=by rw[ByteArray.size_extract];omega
 cases hres:Xa (s.extract a s.size) Qa2 with
 | error k=>
  have HRES:=QLh hres;have T:Hid (Qku s a Qa2=.error k):=QLh (by unfold Qku;rw[hres]);clear hres
  refine Qp 5 1000 (none) (Qaw [λ u _=>u=(pt b 0),λ u _=>u=(.string (s.extract a s.size)),λ u _=>u=(.slice (some ⟨tb,tq,none⟩) (len Qa2) rc),λ _ _=>False,λ u w'=>∃b',u=.pointer (some ⟨b',0,none⟩)∧w.heap.size<b'∧w'.heap[b']?=some (.cells #[.int .u64 0,.string ⟨#[]⟩] 311 (0,0))]) rfl (by kernel_rfl) (by kernel_rfl) (Zb ⟨Qe,Qe,Qe,?m3,?m4,trivial⟩) (Q6 5 ⟨?s0,?s1,?s2,?s3,?s4,trivial⟩) ?_
  case m3=>
   exact⟨λ _ _ _ _ h=>h,λ _ _ _ _ _ h=>h⟩
  case m4=>
   exact⟨λ u w1 w' h ⟨b',h1,h2,h3⟩=>⟨b',h1,h2,Zt h h3⟩,λ _ u w1 w' h ⟨b',h1,h2,h3⟩=>⟨b',h1,h2,Qn h (by simp) h3⟩⟩
  case s0=>
   refine Qc (v:=(pt b 0)) (λ av wv hE hS hO hD=>?_) (λ _=>rfl)
   have f0:=QEf av 0 (pt b 0) (hO.2.2 0 rfl)
   refine⟨rfl,?_⟩
   simp[go_sem,f0]
  case s1=>
   refine Qo (λ av wv hE hS hO hD=>?_)
   have f6:=QEf av 6 (pt b 0) (hD.1 rfl _ rfl)
   refine⟨rfl,?_⟩
   refine Qa0 (v:=(.string (s.extract a s.size))) (by simp[go_sem,f6]) (Qfj wv b s a most (RB.out.below (Qx hE)) ha hs) (λ w2 hb=>⟨_,rfl,Qm hb,rfl⟩)
  case s2=>
   refine Qc (v:=(.slice (some ⟨tb,tq,none⟩) (len Qa2) rc)) (λ av wv hE hS hO hD=>?_) (λ _=>rfl)
   have cg:=Qd hE (by simp) cg
   refine⟨rfl,?_⟩
   simp[go_sem,cg]
  case s3=>
   refine Qo (λ av wv hE hS hO hD=>?_)
   have f7:=QEf av 7 (.string (s.extract a s.size)) (hD.1 rfl _ rfl);have f8:=QEf av 8 (.slice (some ⟨tb,tq,none⟩) (len Qa2) rc) (hD.2.1 rfl _ rfl)
   refine⟨rfl,?_⟩
   refine Qet (chain:=Qgp k) (by simp[go_sem,f7,f8]) ((Qhn (s.extract a s.size) (some ⟨tb,tq,none⟩) rc Qa2 wv hts (by decide) (by decide) (HC.out.below (Qx hE)) Qfl).mono (λ e w' hh=>by rw[HRES.out]at hh;exact Qch hh)) (λ w2 hb=>?_)
   have g2:av.eval (.tmp 2)=.int .u64 0:=hO.2.2 2 rfl;have g3:av.eval (.tmp 3)=.pointer (some ⟨w.heap.size,0,none⟩):=hO.2.2 3 rfl;have f2:=(Qq av 2).symm.trans g2;have f3:=(Qq av 3).symm.trans g3;have B2:=Qk (Qx hE) hb
   show Leaves _ _ av.tmps _ av.defers _ _
   rw[hO.1]
   refine Qd0 k b s a most w2 w.heap.size (.int .u64 0) (RB.out.below B2) ((B2.block _ (lt_of_block W0.out)).trans W0.out) (by omega) (λ w hc=>by simp[results,Tryz.results152,go_sem,hc,f2,f3]) (λ w' hE hR hf=>?_)
   have hz:=(Qk WB.out B2).size
   rw[T.out]
   exact⟨Qdz (Qk WB.out B2) hE,hR,_,rfl,hz,hf⟩
  case s4=>
   refine Qo (λ av wv hE hS hO hD=>?_)
   refine⟨rfl,?_⟩
   refine Zn (v:=.pointer (some ⟨wv.heap.size,0,none⟩)) (w':=wv.alloc (.cells #[.int .u64 0,.string ⟨#[]⟩] 311)) (by simp[go_sem]) ⟨_,rfl,Qm (Qh (Zr _) _),wv.heap.size,rfl,?_,heap_alloc_new _ _⟩
   have:=(Qx hE).size;omega
  intro a' w' hE hO hall
  have hA:=Ql (ds:=[6,7,8,9,4]) rfl hO (by kernel_rfl);have e6:a'.eval (.tmp 6)=(pt b 0):=hall.1 _ rfl;have e7:a'.eval (.tmp 7)=(.string (s.extract a s.size)):=hall.2.1 _ rfl;have e8:a'.eval (.tmp 8)=(.slice (some ⟨tb,tq,none⟩) (len Qa2) rc):=hall.2.2.1 _ rfl;have e9:(λ _ _=>False) (a'.eval (.tmp 9)) w':=hall.2.2.2.1 _ rfl;have e4:(λ u w'=>∃b',u=.pointer (some ⟨b',0,none⟩)∧w.heap.size<b'∧w'.heap[b']?=some (.cells #[.int .u64 0,.string ⟨#[]⟩] 311 (0,0))) (a'.eval (.tmp 4)) w':=hall.2.2.2.2.1 _ rfl
  obtain⟨v9,hv9⟩:∃v,a'.eval (.tmp 9)=v:=⟨_,rfl⟩
  rw[hv9]at e9
  obtain⟨v4,hv4⟩:∃v,a'.eval (.tmp 4)=v:=⟨_,rfl⟩
  rw[hv4]at e4
  simp only[List.foldl_cons,List.foldl_nil,Act.put,List.setIfInBounds_toArray,List.set_cons_succ,List.set_cons_zero,e6,e7,e8,hv9,hv4]at hA
  clear hO hall e6 e7 e8 hv9 hv4
  subst hA
  exact absurd e9 id
 | ok x=>
  obtain⟨n,rest⟩:=x
  obtain⟨n0,n1,hrest⟩:=Qgs Qfl hres
  have HRES:=QLh hres;have hss:(s.extract a s.size).size=s.size - a:=by rw[ByteArray.size_extract];omega
  have hr2:rest.size<s.size - a:=by omega
  have T:Hid (Qku s a Qa2=.ok (.int .u64 n,s.size - rest.size)):=QLh (by unfold Qku;rw[hres]);clear hres hrest hss
  refine Qp 5 1000 (none) (Qaw [λ u _=>u=(pt b 0),λ u _=>u=(.string (s.extract a s.size)),λ u _=>u=(.slice (some ⟨tb,tq,none⟩) (len Qa2) rc),λ u _=>u=(.agg #[.int .u64 n,.string rest]),λ u w'=>∃b',u=.pointer (some ⟨b',0,none⟩)∧w.heap.size<b'∧w'.heap[b']?=some (.cells #[.int .u64 0,.string ⟨#[]⟩] 311 (0,0))]) rfl (by kernel_rfl) (by kernel_rfl) (Zb ⟨Qe,Qe,Qe,Qe,?m4,trivial⟩) (Q6 5 ⟨?s0,?s1,?s2,?s3,?s4,trivial⟩) ?_
  case m4=>
   exact⟨λ u w1 w' h ⟨b',h1,h2,h3⟩=>⟨b',h1,h2,Zt h h3⟩,λ _ u w1 w' h ⟨b',h1,h2,h3⟩=>⟨b',h1,h2,Qn h (by simp) h3⟩⟩
  case s0=>
   refine Qc (v:=(pt b 0)) (λ av wv hE hS hO hD=>?_) (λ _=>rfl)
   have f0:=QEf av 0 (pt b 0) (hO.2.2 0 rfl)
   refine⟨rfl,?_⟩
   simp[go_sem,f0]
  case s1=>
   refine Qo (λ av wv hE hS hO hD=>?_)
   have f6:=QEf av 6 (pt b 0) (hD.1 rfl _ rfl)
   refine⟨rfl,?_⟩
   refine Qa0 (v:=(.string (s.extract a s.size))) (by simp[go_sem,f6]) (Qfj wv b s a most (RB.out.below (Qx hE)) ha hs) (λ w2 hb=>⟨_,rfl,Qm hb,rfl⟩)
  case s2=>
   refine Qc (v:=(.slice (some ⟨tb,tq,none⟩) (len Qa2) rc)) (λ av wv hE hS hO hD=>?_) (λ _=>rfl)
   have cg:=Qd hE (by simp) cg
   refine⟨rfl,?_⟩
   simp[go_sem,cg]
  case s3=>
   refine Qo (λ av wv hE hS hO hD=>?_)
   have f7:=QEf av 7 (.string (s.extract a s.size)) (hD.1 rfl _ rfl);have f8:=QEf av 8 (.slice (some ⟨tb,tq,none⟩) (len Qa2) rc) (hD.2.1 rfl _ rfl)
   refine⟨rfl,?_⟩
   refine Qa0 (v:=(.agg #[.int .u64 n,.string rest])) (by simp[go_sem,f7,f8]) ((Qhn (s.extract a s.size) (some ⟨tb,tq,none⟩) rc Qa2 wv hts (by decide) (by decide) (HC.out.below (Qx hE)) Qfl).mono (λ e w' hh=>by rw[HRES.out]at hh;exact Qdl hh)) (λ w2 hb=>⟨_,rfl,Qm hb,rfl⟩)
  case s4=>
   refine Qo (λ av wv hE hS hO hD=>?_)
   refine⟨rfl,?_⟩
   refine Zn (v:=.pointer (some ⟨wv.heap.size,0,none⟩)) (w':=wv.alloc (.cells #[.int .u64 0,.string ⟨#[]⟩] 311)) (by simp[go_sem]) ⟨_,rfl,Qm (Qh (Zr _) _),wv.heap.size,rfl,?_,heap_alloc_new _ _⟩
   have:=(Qx hE).size;omega
  intro a' w' hE hO hall
  have hA:=Ql (ds:=[6,7,8,9,4]) rfl hO (by kernel_rfl);have e6:a'.eval (.tmp 6)=(pt b 0):=hall.1 _ rfl;have e7:a'.eval (.tmp 7)=(.string (s.extract a s.size)):=hall.2.1 _ rfl;have e8:a'.eval (.tmp 8)=(.slice (some ⟨tb,tq,none⟩) (len Qa2) rc):=hall.2.2.1 _ rfl;have e9:a'.eval (.tmp 9)=(.agg #[.int .u64 n,.string rest]):=hall.2.2.2.1 _ rfl;have e4:(λ u w'=>∃b',u=.pointer (some ⟨b',0,none⟩)∧w.heap.size<b'∧w'.heap[b']?=some (.cells #[.int .u64 0,.string ⟨#[]⟩] 311 (0,0))) (a'.eval (.tmp 4)) w':=hall.2.2.2.2.1 _ rfl
  obtain⟨v4,hv4⟩:∃v,a'.eval (.tmp 4)=v:=⟨_,rfl⟩
  rw[hv4]at e4
  simp only[List.foldl_cons,List.foldl_nil,Act.put,List.setIfInBounds_toArray,List.set_cons_succ,List.set_cons_zero,e6,e7,e8,e9,hv4]at hA
  clear hO hall e6 e7 e8 e9 hv4
  subst hA
  obtain⟨tk,rfl,ht1,ht2⟩:=e4
  have B1:=QLh (Qx hE);have x0:∀o,w'.cell? ⟨tk,o,none⟩=_:=Qa ht2;have x1:∀o,w'.frozen? ⟨tk,o,none⟩=false:=Qj ht2;have HT2:=QLh ht2;have E1:Hid (w'.heap[w.heap.size]?=some (.cells #[.nilIface] 59 (0,0))):=QLh ((B1.out.block _ hzW).trans W0.out);clear hE ht2 cg
  go_upto_region 3 with fail
  obtain⟨V,hV⟩:∃V,(w'.setCell ⟨tk,0,none⟩ (.int .u64 n)).setCell ⟨tk,1,none⟩ (.string rest)=V:=⟨_,rfl⟩
  have hne:b≠tk:=by omega
  have hne2:w.heap.size≠tk:=by omega
  have VR:Hid (RdB V b s a most):=QLh (by rw[←hV];exact Qg (Qg (RB.out.below B1.out) hne _) hne _);have VE:Hid (V.heap[w.heap.size]?=some (.cells #[.nilIface] 59 (0,0))):=QLh (by rw[←hV];exact Qg (Qg E1.out hne2 _) hne2 _);have VT:Hid (V.heap[tk]?=some (.cells #[.int .u64 n,.string rest] 311 (0,0))):=QLh (by rw[←hV];exact Qb (Qb HT2.out _) _);have VX:Hid (Below w.heap.size w V):=QLh (by rw[←hV];exact Zs (Zs (Qk WB.out B1.out) (by show w.heap.size≤tk;omega) _) (by show w.heap.size≤tk;omega) _)
  rw[hV]
  clear hV x0 x1 HT2 E1 RB;have y1:V.cell? ⟨tk,1,none⟩=some (.string rest):=Qa VT.out 1
  go_wp2_with fail
  refine(Qgr _ b s a rest.size most VR.out hs (by omega) (by omega)).mono ?_
  rintro e w5 ⟨rfl,hw5⟩
  have R5:Hid (RdB w5 b s ((s.size - rest.size:Nat):Int) most):=QLh (by
   rw[hw5]
   have h:=Qb VR.out (o:=1) (.int .i64 ((s.size:Int) - rest.size))
   rw[show((s.size - rest.size:Nat):Int)=(s.size:Int) - rest.size by omega]
   exact h)
  have E5:w5.heap[w.heap.size]?=some (.cells #[.nilIface] 59 (0,0)):=by
   rw[hw5];exact Qg VE.out (by show w.heap.size≠b;omega) _
  have N5:w5.heap[tk]?=some (.cells #[.int .u64 n,.string rest] 311 (0,0)):=by
   rw[hw5];exact Qg VT.out (by show tk≠b;omega) _
  have X5:Hid (Jg (some b) w w5):=QLh (by
   rw[hw5]
   have hB:=VX.out
   exact⟨hB.os,hB.tape,hB.output,by simpa using hB.size,λ i hi hn=>by rw[Below.heap_setCell _ _ _ _ (by exact λ e=>hn (by rw[e]))];exact hB.block i hi⟩)
  have a0:w5.cell? ⟨tk,0,none⟩=some (.int .u64 n):=Qa N5 0;have a2:w5.cell? ⟨w.heap.size,0,none⟩=some .nilIface:=Qa E5 0;have a3:w5.frozen? ⟨w.heap.size,0,none⟩=false:=Qj E5 0;have hz5:=lt_of_block E5;clear hw5 E5 N5 y1
  go_wp2
  rw[T.out]
  refine leaves_cons (f:=223) (args:=#[pt b 0,pt w.heap.size 0]) (by simp) (by simp[go_sem]) ?_
  refine(Qdy (pt b 0) (pt w.heap.size 0) _).mono ?_
  rintro e u' w'' ⟨rfl,rfl,rfl⟩
  refine⟨_,by simp[results,Tryz.results152,go_sem,a2];rfl,?_⟩
  refine⟨?_,rfl,?_⟩
  ·exact Qn1 X5.out (Nat.le_refl _) _
  ·exact Qg R5.out (by show b≠w.heap.size;omega) _
theorem Qia(w:World){P:Program}(d:Nat){ti tn:TypeId}{ms:Array (String × TypeId)}{i:TypeInfo}{k:IntKind}(a b:Int)
  (hi:P.underlying ti=some (.interface ms)) (hn:P.underlying tn=some (.int k)) (hinfo:P.info? tn=some i) (hcomp:i.comparable=true):
  (Op.equalIn (d+2) ti (.iface tn (.int k a)) (.iface tn (.int k b))).run P w=.ok (a == b) w:=by
 simp[Op.equalIn,run_underlying hi,run_underlying hn,typeInfo,hinfo,hcomp]
theorem Qn2{P:Program}{ti tn:TypeId}{ms:Array (String × TypeId)}{i:TypeInfo}{k:IntKind}(a b:Int)
  (hi:P.underlying ti=some (.interface ms)) (hn:P.underlying tn=some (.int k)) (hinfo:P.info? tn=some i) (hcomp:i.comparable=true) (w:World):
  (binOp .eql ti (.iface tn (.int k a)) (.iface tn (.int k b))).run P w=.ok (.bool (a == b)) w:=by
 simp only[binOp]
 simp[Op.equal,Op.maxDepth,Qia w 9998 a b hi hn hinfo hcomp]
theorem rtOf(gs:Nat)(hg:gs=Tryz.prog.globals.size)(t:TypeId)(v:Value)(w:World)(ht:t=30 ∨ t=127):(Extern.ReflectliteType.typeOf #[.iface t v]).run Tryz.prog w=.ok (.iface 284 (.agg #[pt gs t])) w:=by
 subst hg
 rcases ht with rfl | rfl <;> kernel_rfl
theorem Ql7(gs:Nat)(hg:gs=Tryz.prog.globals.size)(w:World):((Extern.ReflectliteType.method λ t=>do Extern.Rtype.noPackHeld "Comparable" t;(λ a=>Value.bool a.comparable) <$> typeInfo t) #[.agg #[pt gs 30]]).run Tryz.prog w=.ok (.bool true) w:=by
 subst hg;kernel_rfl
theorem Qfo(n:Nat)(v:Value)(w:World):(Go.method (n+1) 284 v "Comparable").run Tryz.prog w=.ok (288,v) w:=by kernel_rfl
theorem Qr9:(Tryz.prog.info? 30).map (·.comparable)=some true:=by kernel_rfl
theorem noIsF(v:Value)(xT:TypeId)(w:World):(Instr.typeAssert (.iface 127 v) xT 295 true).run Tryz.prog w=.ok (.tuple #[.nilIface,.bool false]) w:=run_typeAssert_lacksB Tryz.underlying295 (by kernel_rfl) (by kernel_rfl) v xT w
theorem Qqi(v:Value)(xT:TypeId)(w:World):(Instr.typeAssert (.iface 127 v) xT 291 true).run Tryz.prog w=.ok (.tuple #[.iface 127 v,.bool true]) w:=run_typeAssert_hasB Tryz.underlying291 (by kernel_rfl) v xT w
theorem noIsE(v:Value)(xT:TypeId)(w:World):(Instr.typeAssert (.iface 30 v) xT 295 true).run Tryz.prog w=.ok (.tuple #[.nilIface,.bool false]) w:=run_typeAssert_lacksB Tryz.underlying295 (by kernel_rfl) (by kernel_rfl) v xT w
theorem Qsa(v:Value)(xT:TypeId)(w:World):(Instr.typeAssert (.iface 30 v) xT 291 true).run Tryz.prog w=.ok (.tuple #[.nilIface,.bool false]) w:=run_typeAssert_lacksB Tryz.underlying291 (by kernel_rfl) (by kernel_rfl) v xT w
theorem Qqj(v:Value)(xT:TypeId)(w:World):(Instr.typeAssert (.iface 30 v) xT 292 true).run Tryz.prog w=.ok (.tuple #[.nilIface,.bool false]) w:=run_typeAssert_lacksB Tryz.underlying292 (by kernel_rfl) (by kernel_rfl) v xT w
theorem Qkv(n:Nat)(v:Value)(w:World):(Go.method (n+1) 127 v "Unwrap").run Tryz.prog w=.ok (280,v) w:=by kernel_rfl
theorem Qpa(f:Nat)(k e:Int)(w:World)(h:w.cell? ⟨f,0,none⟩=some (.int .i64 k)):
  Calls Tryz.prog 72 #[.iface 127 (pt f 0),.iface 30 (.int .i64 e)] w λ x w'=>x=.returned (.bool (k == e))∧w'=w:=by
 obtain⟨i,hi,hcmp⟩:=Option.map_eq_some_iff.1 Qr9
 have h8:=@run_callFunc_extern Tryz.prog 136 _ Extern.ReflectliteType.typeOf Tryz.func136 (by kernel_rfl) (by kernel_rfl) (by kernel_rfl) (by kernel_rfl);have h32:=@run_callFunc_extern Tryz.prog 288 _ (Extern.ReflectliteType.method λ t=>do Extern.Rtype.noPackHeld "Comparable" t;pure (.bool (←typeInfo t).comparable)) Tryz.func288 (by kernel_rfl) (by kernel_rfl) (by kernel_rfl) (by kernel_rfl)
 obtain⟨gs,hg⟩:∃gs,gs=Tryz.prog.globals.size:=⟨_,rfl⟩
 have tT:=λ w=>rtOf gs hg 30 (.int .i64 e) w (.inl rfl);have cT:=Ql7 gs hg;clear hg;have mR:=Qfo;have n1:=noIsF;have n2:=Qqi;have n3:=noIsE;have n4:=Qsa;have n5:=Qqj;have n6:=Qkv;have q1:=fun (w:World)=>run_eql_iface_types (P:=Tryz.prog) 127 30 (pt f 0) (.int .i64 e) Tryz.underlying59 (by decide) w;have q2:=Qn2 (P:=Tryz.prog) k e Tryz.underlying59 Tryz.underlying30 hi hcmp
 go_enter Tryz.func72,Tryz.ntmps72
 cases hke:k == e
 all_goals
  rw[hke]at q2
  go_wp2
  refine wp_loop_rounds 2 ?_
  rw[rounds_succ]
  go_wp2
  rw[rounds_succ]
  go_wp2
  go_ret
  exact⟨rfl,rfl⟩
theorem Qyb(e:Int)(w:World):Calls Tryz.prog 72 #[.nilIface,.iface 30 (.int .i64 e)] w λ x w'=>x=.returned (.bool false)∧w'=w:=by
 have hn:=run_eql_iface_nil_left (P:=Tryz.prog) w 30 (.int .i64 e) Tryz.underlying59
 go_enter Tryz.func72,Tryz.ntmps72
 go_wp2
 go_ret
 exact⟨rfl,rfl⟩
theorem Qyc(v:Value)(w:World):Calls Tryz.prog 71 #[.nilIface,v] w λ x w'=>x=.returned (.bool false)∧w'=w:=by
 go_enter Tryz.func71,Tryz.ntmps71
 go_wp2
 go_ret
 exact⟨rfl,rfl⟩
theorem vOfF(gs:Nat)(hg:gs=Tryz.prog.globals.size)(x:Nat)(w:World):(Extern.ReflectliteValue.unpack (.iface 127 (pt x 0))).run Tryz.prog w=.ok (.agg #[pt gs 127,pt w.heap.size 0,.int .u64 150]) (w.alloc (.cells #[pt x 0] 127)):=by
 subst hg;kernel_rfl
theorem vOfFF(gs:Nat)(hg:gs=Tryz.prog.globals.size)(x:Nat)(w:World):(Extern.ReflectliteValue.unpack (.iface 129 (pt x 0))).run Tryz.prog w=.ok (.agg #[pt gs 129,pt w.heap.size 0,.int .u64 150]) (w.alloc (.cells #[pt x 0] 129)):=by
 subst hg;kernel_rfl
theorem vType(gs:Nat)(hg:gs=Tryz.prog.globals.size)(a:Addr)(w:World):(Extern.ReflectliteValue.methodAny (Extern.ReflectliteValue.valueError "reflectlite.Value.Type" 0) (λ t _ _ _=>Extern.ReflectliteType.toType t) #[(.agg #[pt gs 129,.pointer (some a),.int .u64 150])]).run Tryz.prog w=.ok (.iface 284 (.agg #[pt gs 129])) w:=by
 subst hg;kernel_rfl
theorem mKind(gs:Nat)(hg:gs=Tryz.prog.globals.size)(n:Nat)(w:World):(Go.method (n+1) 284 (.agg #[pt gs 129]) "Kind").run Tryz.prog w=.ok (275,.pointer (some ⟨gs,129,none⟩)) w:=by
 subst hg;kernel_rfl
theorem Qz7(gs:Nat)(hg:gs=Tryz.prog.globals.size)(n:Nat)(w:World):(Go.method (n+1) 284 (.agg #[pt gs 127]) "Kind").run Tryz.prog w=.ok (275,.pointer (some ⟨gs,127,none⟩)) w:=by
 subst hg;kernel_rfl
theorem mElem(n:Nat)(v:Value)(w:World):(Go.method (n+1) 284 v "Elem").run Tryz.prog w=.ok (289,v) w:=by kernel_rfl
theorem mImpl(n:Nat)(v:Value)(w:World):(Go.method (n+1) 284 v "Implements").run Tryz.prog w=.ok (290,v) w:=by kernel_rfl
theorem Qyd(n:Nat)(v:Value)(w:World):(Go.method (n+1) 284 v "AssignableTo").run Tryz.prog w=.ok (287,v) w:=by kernel_rfl
theorem rElem(gs:Nat)(hg:gs=Tryz.prog.globals.size)  (w:World):(Extern.ReflectliteType.method Extern.ReflectliteType.elem #[(.agg #[pt gs 129])]).run Tryz.prog w=.ok (.iface 284 (.agg #[pt gs 127])) w:=by
 subst hg;kernel_rfl
theorem Qye(gs:Nat)(hg:gs=Tryz.prog.globals.size)  (w:World):(Extern.ReflectliteType.relation "AssignableTo" Extern.ReflectliteType.assignableTo #[(.agg #[pt gs 127]),.iface 284 (.agg #[pt gs 127])]).run Tryz.prog w=.ok (.bool true) w:=by
 subst hg;kernel_rfl
theorem rImpl(gs:Nat)(hg:gs=Tryz.prog.globals.size)  (w:World):(Extern.ReflectliteType.relation "Implements" Extern.ReflectliteType.implements_ #[(.agg #[pt gs 127]),.iface 284 (.agg #[pt gs 59])]).run Tryz.prog w=.ok (.bool true) w:=by
 subst hg;kernel_rfl
theorem kKind(gs:Nat)(hg:gs=Tryz.prog.globals.size)  (w:World):(Extern.ReflectliteType.abiMethod (λ t=>(λ a=>Value.int IntKind.u8 ((a:Nat):Int)) <$> Extern.Rtype.kind t) #[pt gs 129]).run Tryz.prog w=.ok (.int .u8 22) w:=by
 subst hg;kernel_rfl
theorem Qz8(gs:Nat)(hg:gs=Tryz.prog.globals.size)  (w:World):(Extern.ReflectliteType.abiMethod (λ t=>(λ a=>Value.int IntKind.u8 ((a:Nat):Int)) <$> Extern.Rtype.kind t) #[pt gs 127]).run Tryz.prog w=.ok (.int .u8 22) w:=by
 subst hg;kernel_rfl
theorem Qsb(gs:Nat)(hg:gs=Tryz.prog.globals.size)(a:Addr)(w:World):(Extern.ReflectliteValue.parts (.agg #[pt gs 129,.pointer (some a),.int .u64 150])).run Tryz.prog w=.ok (some (129,a,150)) w:=by
 subst hg;kernel_rfl
theorem Qz9(gs:Nat)(hg:gs=Tryz.prog.globals.size)(a:Addr)(w:World):(Extern.ReflectliteValue.parts (.agg #[pt gs 127,.pointer (some a),.int .u64 150])).run Tryz.prog w=.ok (some (127,a,150)) w:=by
 subst hg;kernel_rfl
theorem Qyf(gs:Nat)(hg:gs=Tryz.prog.globals.size)(a:Addr)(w:World):(Extern.ReflectliteValue.parts (.agg #[pt gs 127,.pointer (some a),.int .u64 406])).run Tryz.prog w=.ok (some (127,a,406)) w:=by
 subst hg;kernel_rfl
theorem Q0a(w:World):(Extern.Rtype.elem? 129).run Tryz.prog w=.ok (some 127) w:=by kernel_rfl
theorem mkF(gs:Nat)(hg:gs=Tryz.prog.globals.size)(p:Addr)(w:World):(Extern.ReflectliteValue.mk 127 p Extern.ReflectliteValue.flagAddr).run Tryz.prog w=.ok (.agg #[pt gs 127,.pointer (some p),.int .u64 406]) w:=by
 subst hg;kernel_rfl
theorem Qyg(w:World):(Extern.Rtype.directlyAssignable 127 127).run Tryz.prog w=.ok true w:=by kernel_rfl
theorem Qxl(b:Nat)(p:Addr)(w:World)(h:w.cell? ⟨b,0,none⟩=some (.pointer (some p))):(loadVar 129 ⟨b,0,none⟩).run Tryz.prog w=.ok (.pointer (some p)) w:=by
 simp[go_sem,h]
theorem Q0b(gs:Nat)(hg:gs=Tryz.prog.globals.size)(b:Nat)(p:Addr)(w:World)(h:w.cell? ⟨b,0,none⟩=some (.pointer (some p))):(Extern.ReflectliteValue.method (Extern.ReflectliteValue.valueError "reflectlite.Value.IsNil" 0) Extern.ReflectliteValue.isNil #[(.agg #[pt gs 129,pt b 0,.int .u64 150])]).run Tryz.prog w=.ok (.bool false) w:=by
 change (do
  match ←Extern.ReflectliteValue.parts (.agg #[pt gs 129,pt b 0,.int .u64 150])with
  | none=>Extern.ReflectliteValue.valueError "reflectlite.Value.IsNil" 0
  | some (t,a,fl)=>Extern.ReflectliteValue.isNil t a fl (fl % 32):Sem Value).run Tryz.prog w=_
 simp[Qsb gs hg,Extern.ReflectliteValue.isNil,Qxl b p w h]
theorem vElem(gs:Nat)(hg:gs=Tryz.prog.globals.size)(b:Nat)(p:Addr)(w:World)(h:w.cell? ⟨b,0,none⟩=some (.pointer (some p))):(Extern.ReflectliteValue.method (Extern.ReflectliteValue.valueError "reflectlite.Value.Elem" 0) Extern.ReflectliteValue.elem #[(.agg #[pt gs 129,pt b 0,.int .u64 150])]).run Tryz.prog w=.ok (.agg #[pt gs 127,.pointer (some p),.int .u64 406]) w:=by
 change (do
  match ←Extern.ReflectliteValue.parts (.agg #[pt gs 129,pt b 0,.int .u64 150])with
  | none=>Extern.ReflectliteValue.valueError "reflectlite.Value.Elem" 0
  | some (t,a,fl)=>Extern.ReflectliteValue.elem t a fl (fl % 32):Sem Value).run Tryz.prog w=_
 simp[Qsb gs hg,Extern.ReflectliteValue.elem,Q0a,mkF gs hg,Qxl b p w h]
theorem vSet(gs:Nat)(hg:gs=Tryz.prog.globals.size)(tb b:Nat)(x:Value)(p:Addr)(w:World)(h:w.cell? ⟨b,0,none⟩=some (.pointer (some p)))(hx:w.cell? ⟨tb,0,none⟩=some x)(hz:w.frozen? ⟨tb,0,none⟩=false):
  (Extern.ReflectliteValue.set #[(.agg #[pt gs 127,pt tb 0,.int .u64 406]),(.agg #[pt gs 127,pt b 0,.int .u64 150])]).run Tryz.prog w=.ok (.tuple #[]) (w.setCell ⟨tb,0,none⟩ (.pointer (some p))):=by
 have l61:(loadVar 127 ⟨b,0,none⟩).run Tryz.prog w=.ok (.pointer (some p)) w:=by simp[go_sem,h]
 have s61:(storeVar 127 ⟨tb,0,none⟩ (.pointer (some p))).run Tryz.prog w=.ok () (w.setCell ⟨tb,0,none⟩ (.pointer (some p))):=by simp[go_sem,hx,hz]
 change (do
  let (some (dst,a,fl),some (src,b,_)):=(←Extern.ReflectliteValue.parts (.agg #[pt gs 127,pt tb 0,.int .u64 406]),←Extern.ReflectliteValue.parts (.agg #[pt gs 127,pt b 0,.int .u64 150]))
   | unsupported (.noEntry _)
  if fl / Extern.ReflectliteValue.flagAddr % 2 == 0 then unsupported (.noEntry _)
  let val ←loadVar src b
  if ←Extern.Rtype.directlyAssignable dst src then storeVar dst a val
  else if ←Extern.Rtype.implements dst src then
   if(←Extern.Rtype.kind src) == 20 then
    match val with
    | .nilIface=>unsupported (.noEntry _)
    | _=>storeVar dst a val
   else storeVar dst a (.iface src val)
  else panicString (_++(←Extern.Rtype.spelt src)++_++(←Extern.Rtype.spelt dst))
  pure (.tuple #[]):Sem Value).run Tryz.prog w=_
 simp[Qz9 gs hg,Qyf gs hg,l61,Qyg,s61,Extern.ReflectliteValue.flagAddr]
theorem Qvj{w w1:World}{tb:Nat}(h:Below w.heap.size w w1)(v:Value):Jg (some tb) w (w1.setCell ⟨tb,0,none⟩ v):=
 ⟨h.os,h.tape,h.output,by simpa using h.size,λ i hi hn=>by rw[Below.heap_setCell _ _ _ _ (by show i≠tb;exact λ e=>hn (by rw[e]))];exact h.block i hi⟩
def ErrType(w:World):Prop:=w.cell? ⟨0,0,none⟩=some (.iface 284 (.agg #[pt Tryz.prog.globals.size 59]))
theorem Qpb(f tb:Nat)(q:Option Addr)(w:World)(he:ErrType w)(ht:w.heap[tb]?=some (.cells #[.pointer q] 127 (0,0))):
  Calls Tryz.prog 71 #[.iface 127 (pt f 0),.iface 129 (pt tb 0)] w λ x w'=>x=.returned (.bool true)∧Jg (some tb) w w'∧w'.heap[tb]?=some (.cells #[pt f 0] 127 (0,0)):=by
 obtain⟨gs,hg⟩:∃gs,gs=Tryz.prog.globals.size:=⟨_,rfl⟩
 have ce:w.cell? ⟨0,0,none⟩=some (.iface 284 (.agg #[pt gs 59])):=by rw[hg];exact he
 have hel:=Qw ce;have ct:w.cell? ⟨tb,0,none⟩=some (.pointer q):=Qa ht 0;have cz:w.frozen? ⟨tb,0,none⟩=false:=Qj ht 0;have htl:=lt_of_block ht;have HT:=QLh ht;clear he ht;have x31:=@run_callFunc_extern Tryz.prog 132 _ (λ args=>Extern.ReflectliteValue.unpack (args.getD 0 (.tuple #[]))) Tryz.func132 (by kernel_rfl) (by kernel_rfl) (by kernel_rfl) (by kernel_rfl);have x32:=@run_callFunc_extern Tryz.prog 133 _ (Extern.ReflectliteValue.methodAny (Extern.ReflectliteValue.valueError "reflectlite.Value.Type" 0) λ t _ _ _=>Extern.ReflectliteType.toType t) Tryz.func133 (by kernel_rfl) (by kernel_rfl) (by kernel_rfl) (by kernel_rfl);have x33:=@run_callFunc_extern Tryz.prog 134 _ (Extern.ReflectliteValue.method (Extern.ReflectliteValue.valueError "reflectlite.Value.IsNil" 0) Extern.ReflectliteValue.isNil) Tryz.func134 (by kernel_rfl) (by kernel_rfl) (by kernel_rfl) (by kernel_rfl);have x35:=@run_callFunc_extern Tryz.prog 136 _ (Extern.ReflectliteType.typeOf) Tryz.func136 (by kernel_rfl) (by kernel_rfl) (by kernel_rfl) (by kernel_rfl);have x40:=@run_callFunc_extern Tryz.prog 207 _ (Extern.ReflectliteValue.method (Extern.ReflectliteValue.valueError "reflectlite.Value.Elem" 0) Extern.ReflectliteValue.elem) Tryz.func207 (by kernel_rfl) (by kernel_rfl) (by kernel_rfl) (by kernel_rfl);have x41:=@run_callFunc_extern Tryz.prog 208 _ (Extern.ReflectliteValue.set) Tryz.func208 (by kernel_rfl) (by kernel_rfl) (by kernel_rfl) (by kernel_rfl);have x56:=@run_callFunc_extern Tryz.prog 275 _ (Extern.ReflectliteType.abiMethod λ t=>do pure (.int .u8 (←Extern.Rtype.kind t))) Tryz.func275 (by kernel_rfl) (by kernel_rfl) (by kernel_rfl) (by kernel_rfl);have x66:=@run_callFunc_extern Tryz.prog 287 _ (Extern.ReflectliteType.relation "AssignableTo" Extern.ReflectliteType.assignableTo) Tryz.func287 (by kernel_rfl) (by kernel_rfl) (by kernel_rfl) (by kernel_rfl);have x68:=@run_callFunc_extern Tryz.prog 289 _ (Extern.ReflectliteType.method Extern.ReflectliteType.elem) Tryz.func289 (by kernel_rfl) (by kernel_rfl) (by kernel_rfl) (by kernel_rfl);have x69:=@run_callFunc_extern Tryz.prog 290 _ (Extern.ReflectliteType.relation "Implements" Extern.ReflectliteType.implements_) Tryz.func290 (by kernel_rfl) (by kernel_rfl) (by kernel_rfl) (by kernel_rfl);have y1:=vOfF gs hg f;have y2:=vOfFF gs hg tb;have y3:=vType gs hg;have y4:=mKind gs hg;have y5:=Qz7 gs hg;have y6:=mElem;have y7:=mImpl;have y8:=Qyd;have y9:=rElem gs hg;have y10:=Qye gs hg;have y11:=rImpl gs hg;have y12:=kKind gs hg;have y13:=Qz8 gs hg;have y14:=fun (w:World)=>rtOf gs hg 127 (pt f 0) w (.inr rfl);have y15:=fun (b:Nat) (w:World) h=>Q0b gs hg b ⟨tb,0,none⟩ w h;have y16:=fun (X Y:Obj)=>vElem gs hg w.heap.size ⟨tb,0,none⟩ (((w.alloc (.cells #[pt tb 0] 129)).alloc X).alloc Y) (Qa (Qf (Qf (heap_alloc_new w _) _) _) 0);have y17:=fun (X Y:Obj)=>vSet gs hg tb (w.heap.size+1+1+1) (.pointer q) ⟨f,0,none⟩ ((((w.alloc (.cells #[pt tb 0] 129)).alloc X).alloc Y).alloc (.cells #[pt f 0] 127))
  (Qa (Qi _ (Z1 _ (Z1 _ (Z1 _ rfl)))) 0) (Qa (Qf (Qf (Qf (Qf HT.out _) _) _) _) 0) (Qj (Qf (Qf (Qf (Qf HT.out _) _) _) _) 0)
 clear hg
 go_enter Tryz.func71,Tryz.ntmps71
 go_wp2
 refine wp_loop_rounds 1 ?_
 rw[rounds_succ]
 go_wp2
 go_ret
 refine⟨rfl,?_,?_⟩
 ·exact Qvj (by(repeat (first | exact Below.refl _ _ | assumption | (refine Zd ?_) | (refine Zc ?_ _) | (refine Qh ?_ _) | (refine Zs ?_ (by first | omega | (simp;done) | (simp;omega)) _) | (refine Qk ?_ (by assumption))))) _
 ·exact Qb (Qf (Qf (Qf (Qf HT.out _) _) _) _) _
def FltB(w:World)(f:Nat)(k:Int)(a:Nat):Prop:=w.heap[f]?=some (.cells #[.int .i64 k,.int .i64 a] 63 (0,0))
theorem FltB.below{w w':World}{f:Nat}{k:Int}{a:Nat}(h:FltB w f k a)(hb:Below w.heap.size w w'):FltB w' f k a:=(hb.block _ (lt_of_block h)).trans h
theorem ErrType.below{w w':World}(h:ErrType w)(hb:Below w.heap.size w w'):ErrType w':=by
 unfold ErrType at *
 rw[hb.cell (p:=⟨_,0,none⟩) (Qw h)];exact h
def Qxm(k:Option Int)(b:Nat)(s:ByteArray)(most:Int)(a:Nat)(w:World)(e:Ending)(w':World):Prop:=
 Below w.heap.size w w'∧match k with
  | none=>e=.returned .nilIface
  | some k=>∃f,e=.returned (.iface 127 (pt f 0))∧w.heap.size≤f∧FltB w' f k a
def Qdm(s:ByteArray)(a:Nat):Option Int:=if a<s.size then some 5 else none
theorem Qkw{t:ByteArray}(h:t.size=0):t.toList.isEmpty=true:=by
 rw[ByteArray.toList_eq];cases t with | mk d=>simp_all [ByteArray.size]
theorem Qn3{t:ByteArray}(h:t.size≠0):t.toList.isEmpty=false:=by
 rw[ByteArray.toList_eq];cases t with | mk d=>simp_all [ByteArray.size]
theorem Qsc(s:ByteArray)(a:Nat)(h:¬a<s.size):(s.extract a s.size).toList.isEmpty=true:=Qkw (by rw[ByteArray.size_extract];omega)
theorem Qvk(s:ByteArray)(a:Nat)(h:a<s.size):(s.extract a s.size).toList.isEmpty=false:=Qn3 (by rw[ByteArray.size_extract];omega)
theorem Qsd{fn:Func}{tmps:Array Value}{R:Ending→World→Prop}(k:Int)(b:Nat)(s:ByteArray)(a:Nat)(most:Int)(w1:World)(eb:Nat)(h:RdB w1 b s a most)
  (he:w1.heap[eb]?=some (.cells #[.nilIface] 59 (0,0)))
  (hr:∀w:World,w.cell? ⟨eb,0,none⟩=some (.iface 127 (pt w1.heap.size 0))→(results fn tmps).run Tryz.prog w=.ok (.iface 127 (pt w1.heap.size 0)) w)
  (hR:∀w':World,Jg (some eb) w1 w'→w'.heap[w1.heap.size]?=some (.cells #[.int .i64 k,.int .i64 a] 63 (0,0))→R (.returned (.iface 127 (pt w1.heap.size 0))) w'):
  Leaves Tryz.prog fn tmps R [{ target:=.fn (.func 223) #[],args:=#[pt b 0,pt eb 0] }] (.panicking (Qgp k)) w1:=by
 refine leaves_cons (f:=223) (args:=#[pt b 0,pt eb 0]) (by simp) (by simp[go_sem]) ?_
 refine(Qjz k [] (pt b 0) a eb .nilIface w1 (Ql2 w1 b s a most h) (Qa he 0) rfl (Qj he 0)).mono ?_
 rintro e u' w'' ⟨rfl,rfl,rfl⟩
 have hl:=lt_of_block he;have hs:(w1.setCell ⟨eb,0,none⟩ (.iface 127 (pt w1.heap.size 0))).heap.size=w1.heap.size:=by simp
 have hb0:(w1.setCell ⟨eb,0,none⟩ (.iface 127 (pt w1.heap.size 0))).heap[eb]?=_:=Qb he _;have hb:=Qf hb0 (.cells #[.int .i64 k,.int .i64 a] 63)
 refine⟨_,hr _ (Qa hb 0),hR _ ?_ ?_⟩
 ·refine⟨rfl,rfl,rfl,by simp,λ i hi hn=>?_⟩
  rw[Below.heap_alloc _ _ _ (by rw[hs];exact hi),Below.heap_setCell _ _ _ _ (by intro e;subst e;exact hn rfl)]
 ·exact Qi _ hs
theorem Qvl(w:World)(b:Nat)(s:ByteArray)(a:Nat)(most:Int)(h:RdB w b s a most)(ha:a≤s.size)(hs:s.size≤9223372036854775807):
  Calls Tryz.prog 206 #[pt b 0] w (Qxm (Qdm s a) b s most a w):=by
 have H:=QLh h;have hbl:=lt_of_block h;clear h
 go_enter_defers Tryz.func206,Tryz.ntmps206
 go_wp2_with fail
 obtain⟨W,hW⟩:∃W,w.alloc (.cells #[.nilIface] 59)=W:=⟨_,rfl⟩
 have WB:Hid (Below w.heap.size w W):=QLh (by rw[←hW];(repeat (first | exact Below.refl _ _ | assumption | (refine Zd ?_) | (refine Zc ?_ _) | (refine Qh ?_ _) | (refine Zs ?_ (by first | omega | (simp;done) | (simp;omega)) _) | (refine Qk ?_ (by assumption)))))
 have W0:Hid (W.heap[w.heap.size]?=some (.cells #[.nilIface] 59 (0,0))):=QLh (by rw[←hW];(repeat (first | exact Qi _ (by repeat (first | rfl | refine Z1 _ ?_)) | refine Qf ?_ _)))
 rw[hW]
 clear hW
 refine(Qfj W b s a most (H.out.below WB.out) ha hs).mono ?_
 rintro e w1 ⟨rfl,hb1⟩
 have B1:=QLh hb1;clear hb1
 by_cases hlt:a<s.size
 ·have he:=Qvk s a hlt
  have he2:(!(s.extract a s.size).toList.isEmpty)=true:=by rw[he];rfl
  have T:Hid (Qdm s a=some 5):=QLh (by unfold Qdm;rw[if_pos hlt])
  go_wp2_with fail
  refine(Qbk 5 _).mono ?_
  rintro e w2 ⟨rfl,rfl⟩
  go_wp2
  rw[T.out]
  refine Qsd 5 b s a most w2 w.heap.size (H.out.below (Qk WB.out B1.out)) ((B1.out.block _ (lt_of_block W0.out)).trans W0.out) (λ w hc=>by simp[results,Tryz.results206,go_sem,hc]) (λ w' hE hf=>?_)
  have hz:=(Qk WB.out B1.out).size
  exact⟨J0 (Qk WB.out B1.out) hE (λ k hk=>by cases hk;exact Nat.le_refl _),_,rfl,hz,hf⟩
 ·have he:=Qsc s a hlt
  have he2:(!(s.extract a s.size).toList.isEmpty)=false:=by rw[he];rfl
  have T:Hid (Qdm s a=none):=QLh (by unfold Qdm;rw[if_neg hlt]);have E1:=(B1.out.block _ (lt_of_block W0.out)).trans W0.out;have a2:w1.cell? ⟨w.heap.size,0,none⟩=some .nilIface:=Qa E1 0;have a3:w1.frozen? ⟨w.heap.size,0,none⟩=false:=Qj E1 0;have hz1:=lt_of_block E1;clear E1
  go_wp2
  rw[T.out]
  refine leaves_cons (f:=223) (args:=#[pt b 0,pt w.heap.size 0]) (by simp) (by simp[go_sem]) ?_
  refine(Qdy (pt b 0) (pt w.heap.size 0) _).mono ?_
  rintro e u' w'' ⟨rfl,rfl,rfl⟩
  refine⟨_,by simp[results,Tryz.results206,go_sem,a2];rfl,?_⟩
  exact⟨Zs (Qk WB.out B1.out) (by show w.heap.size≤w.heap.size;exact Nat.le_refl _) _,rfl⟩
theorem Qn4(w:World)(b:Nat)(s:ByteArray)(a:Nat)(most:Int)(het:ErrType w)(h:RdB w b s a most)(ha:a≤s.size)(hs:s.size≤9223372036854775807):
  Calls Tryz.prog 124 #[pt b 0] w (Qxm (Qdm s a) b s most a w):=by
 have H:=QLh h;have HET:=QLh het;clear h het
 go_enter Tryz.func124,Tryz.ntmps124
 go_wp2_with fail
 refine(Qvl w b s a most H.out ha hs).mono ?_
 rintro e w1 ⟨hb1,hm⟩
 have B1:=QLh hb1;clear hb1
 cases hl:Qdm s a with
 | none=>
  rw[hl]at hm
  subst hm
  have T:=QLh hl;clear hl
  go_wp2_with fail
  refine(Qyb 1 _).mono ?_
  rintro e w2 ⟨rfl,rfl⟩
  go_wp2_with fail
  refine(Qyc _ _).mono ?_
  rintro e w2 ⟨rfl,rfl⟩
  go_wp2
  go_ret
  rw[T.out]
  exact⟨(by have:=B1.out;(repeat (first | exact Below.refl _ _ | assumption | (refine Zd ?_) | (refine Zc ?_ _) | (refine Qh ?_ _) | (refine Zs ?_ (by first | omega | (simp;done) | (simp;omega)) _) | (refine Qk ?_ (by assumption))))),rfl⟩
 | some k=>
  have hk:k=5:=by unfold Qdm at hl;split at hl <;> simp_all
  subst hk
  rw[hl]at hm
  obtain⟨f,rfl,hf,hfb⟩:=hm
  have T:=QLh hl;have F1:=QLh hfb;clear hl hfb
  go_wp2_with fail
  refine(Qpa f 5 1 _ (Qa (Qf F1.out _) 0)).mono ?_
  rintro e w2 ⟨rfl,hw2⟩
  have hb51:((5:Int) == 1)=false:=by decide
  have B2:Hid (Below w1.heap.size w1 w2):=QLh (by rw[hw2];exact Qh (Below.refl _ _) _);have T2:Hid (w2.heap[w1.heap.size]?=some (.cells #[.pointer none] 127 (0,0))):=QLh (by rw[hw2];exact heap_alloc_new _ _);clear hw2
  go_wp2_with fail
  refine(Qpb f w1.heap.size none w2 (HET.out.below (Qk B1.out B2.out)) T2.out).mono ?_
  rintro e w3 ⟨rfl,hE3,hb3⟩
  have X3:Hid (Below w.heap.size w w3):=QLh (J0 (Qk B1.out B2.out) hE3 (λ k hk=>by cases hk;exact B1.out.size));have F3:Hid (FltB w3 f 5 a):=QLh (Qn hE3 (by
   have:=lt_of_block F1.out
   intro e;cases e;omega) (F1.out.below B2.out))
  clear hE3 hb3
  go_wp2
  go_ret
  rw[T.out]
  exact⟨X3.out,f,rfl,hf,F3.out⟩
def Xv(sort:Nat):List URow:=match sort with | 1=>Ql6 | 2=>Qjq | 3=>Qeh | 4=>Qei | _=>Qa2
def Xk(sort:Nat)(s:ByteArray)(a:Nat)(most:Int):Except Int (Int × ByteArray × Nat):=
 match Xa (s.extract a s.size) (Xv sort)with
 | .error k=>.error k
 | .ok (n,rest)=>
  if sort≠0∧most<n then .error 3
  else if sort=1 ∨ sort=2 then(if(rest.size:Int)<n then .error 4 else .ok (n,rest.extract 0 n.toNat,s.size - (rest.size - n.toNat)))
  else .ok (n,⟨#[]⟩,s.size - rest.size)
theorem Qse{s:ByteArray}{a:Nat}{most:Int}{sort:Nat}(h:sort=1 ∨ sort=2):
  (∃k,Qbc s a most (Xv sort)=.error k∧Xk sort s a most=.error k) ∨
  (∃(n:Nat) (t:ByteArray) (a':Nat),Qbc s a most (Xv sort)=.ok (.string t,a')∧Xk sort s a most=.ok ((n:Int),t,a')∧t.size=n∧(n:Int)≤most):=by
 have h0:sort≠0:=by omega
 unfold Qbc Xk
 cases hh:Xa (s.extract a s.size) (Xv sort)with
 | error k=>exact .inl ⟨k,rfl,rfl⟩
 | ok x=>
  obtain⟨n,rest⟩:=x
  have hb:=Qgs (by rcases h with rfl | rfl;exact Qho;exact Qhp) hh
  by_cases h1:most<n
  ·exact .inl ⟨3,by simp only[if_pos h1],by simp only[if_pos (And.intro h0 h1)]⟩
  ·by_cases h2:(rest.size:Int)<n
   ·exact .inl ⟨4,by simp only[if_neg h1,if_pos h2],by simp only[if_neg (λ e:sort≠0∧most<n=>h1 e.2),if_pos h,if_pos h2]⟩
   ·refine .inr ⟨n.toNat,rest.extract 0 n.toNat,s.size - (rest.size - n.toNat),by simp only[if_neg h1,if_neg h2],?_,by rw[ByteArray.size_extract];omega,by omega⟩
    simp only[if_neg (λ e:sort≠0∧most<n=>h1 e.2),if_pos h,if_neg h2]
    rw[show((n.toNat:Nat):Int)=n by omega]
theorem Qqk{s:ByteArray}{a:Nat}{most:Int}{sort:Nat}(h:sort=3 ∨ sort=4):
  (∃k,Qad s a most (Xv sort)=.error k∧Xk sort s a most=.error k) ∨
  (∃(n:Nat) (a':Nat),Qad s a most (Xv sort)=.ok (.int .i64 n,a')∧Xk sort s a most=.ok ((n:Int),⟨#[]⟩,a')∧(n:Int)≤most):=by
 have h0:sort≠0:=by omega
 have h3:¬(sort=1 ∨ sort=2):=by omega
 unfold Qad Xk
 cases hh:Xa (s.extract a s.size) (Xv sort)with
 | error k=>exact .inl ⟨k,rfl,rfl⟩
 | ok x=>
  obtain⟨n,rest⟩:=x
  have hb:=Qgs (by rcases h with rfl | rfl;exact Qfm;exact Qfn) hh
  by_cases h1:most<n
  ·exact .inl ⟨3,by simp only[if_pos h1],by simp only[if_pos (And.intro h0 h1)]⟩
  ·refine .inr ⟨n.toNat,s.size - rest.size,?_,?_,by omega⟩
   ·simp only[if_neg h1];rw[show((n.toNat:Nat):Int)=n by omega]
   ·simp only[if_neg (λ e:sort≠0∧most<n=>h1 e.2),if_neg h3];rw[show((n.toNat:Nat):Int)=n by omega]
theorem Qvm{s:ByteArray}{a:Nat}{most:Int}:
  (∃k,Qku s a Qa2=.error k∧Xk 0 s a most=.error k) ∨
  (∃(n:Int) (a':Nat),Qku s a Qa2=.ok (.int .u64 n,a')∧Xk 0 s a most=.ok (n,⟨#[]⟩,a')):=by
 unfold Qku Xk
 have e:Xv 0=Qa2:=rfl
 rw[e]
 cases hh:Xa (s.extract a s.size) Qa2 with
 | error k=>exact .inl ⟨k,rfl,rfl⟩
 | ok x=>
  obtain⟨n,rest⟩:=x
  exact .inr ⟨n,s.size - rest.size,rfl,by simp⟩
theorem Qql{t:ByteArray}{l:List URow}{k:Int}(h:Xa t l=.error k):k≠0:=by
 unfold Xa at h
 split at h
 ·cases h;decide
 ·split at h
  ·cases h;decide
  ·next r _=>
   by_cases h1:(t.size:Int)<1+r.size
   ·rw[if_pos h1]at h;cases h;decide
   ·rw[if_neg h1]at h
    obtain⟨v,hv⟩:∃v,(if r.size=0 then Qai t 0 - r.lo else be t r.size.toNat)=v:=⟨_,rfl⟩
    simp only[hv]at h
    by_cases h2:v<r.least
    ·rw[if_pos h2]at h;cases h;decide
    ·rw[if_neg h2]at h;cases h
theorem Qqm{sort:Nat}{s:ByteArray}{a:Nat}{most k:Int}(h:Xk sort s a most=.error k):k≠0:=by
 unfold Xk at h
 cases hh:Xa (s.extract a s.size) (Xv sort)with
 | error k2=>rw[hh]at h;cases h;exact Qql hh
 | ok x=>
  obtain⟨n,rest⟩:=x
  rw[hh]at h
  simp only at h
  split at h
  ·cases h;decide
  ·split at h
   ·split at h
    ·cases h;decide
    ·cases h
   ·cases h
theorem Ql8{sort:Nat}{s:ByteArray}{a:Nat}{most:Int}{x:Int × ByteArray × Nat}(h:Xk sort s a most=.ok x):x.2.2≤s.size:=by
 unfold Xk at h
 cases hh:Xa (s.extract a s.size) (Xv sort)with
 | error k2=>rw[hh]at h;cases h
 | ok y=>
  obtain⟨n,rest⟩:=y
  rw[hh]at h
  simp only at h
  split at h
  ·cases h
  ·split at h
   ·split at h
    ·cases h
    ·cases h;exact Nat.sub_le _ _
   ·cases h;exact Nat.sub_le _ _
theorem Qn5(w:World)(s:ByteArray)(m:Int):Calls Tryz.prog 122 #[.string s,.int .i64 m] w λ e w'=>e=.returned (pt w.heap.size 0)∧w'=w.alloc (.cells #[.string s,.int .i64 0,.int .i64 (max m 0)] 275):=by
 by_cases h:m<0
 ·rw[show max m 0=0 by omega]
  go_enter Tryz.func122,Tryz.ntmps122
  go_wp2
  go_ret
  exact⟨rfl,rfl⟩
 ·rw[show max m 0=m by omega]
  go_enter Tryz.func122,Tryz.ntmps122
  go_wp2
  go_ret
  exact⟨rfl,rfl⟩
theorem Qqn(w:World)(s:ByteArray)(m:Int):Calls Tryz.prog 125 #[.string s,.int .i64 m] w λ e w'=>e=.returned (pt w.heap.size 0)∧w'=w.alloc (.cells #[.string s,.int .i64 0,.int .i64 (max m 0)] 210):=by
 by_cases h:m<0
 ·rw[show max m 0=0 by omega]
  go_enter Tryz.func125,Tryz.ntmps125
  go_wp2
  go_ret
  exact⟨rfl,rfl⟩
 ·rw[show max m 0=m by omega]
  go_enter Tryz.func125,Tryz.ntmps125
  go_wp2
  go_ret
  exact⟨rfl,rfl⟩
structure RevD where
 pos:Int
 L:Int
 signed:Bool
 idx:Int
 ws:List ByteArray
 ps:List ByteArray
 root:ByteArray
 wt:Int
 first:Int
 life:Int
 keys:Int
inductive DV where
 | num (n:Int)
 | flag (q:Bool)
 | str (s:ByteArray)
 | strs (l:List ByteArray)
 | nums (l:List Int)
 | revs (l:List RevD)
def Qae:DV→Bool
 | .num n=>n == 0
 | .flag q=>!q
 | .str s=>s.size == 0
 | .strs l=>l.length == 0
 | .nums l=>l.length == 0
 | .revs l=>l.length == 0
abbrev Rcd:=Nat→DV
def upd(x:Rcd)(o:Nat)(d:DV):Rcd:=λ i=>if i=o then d else x i
theorem Xc(x:Rcd)(o:Nat)(d:DV):upd x o d o=d:=if_pos rfl
theorem Zg{x:Rcd}{o i:Nat}{d:DV}(h:i≠o):upd x o d i=x i:=if_neg h
abbrev Flt:=Int × Nat
def tkR(sort:Nat)(s:ByteArray)(a:Nat):Except Flt (Int × ByteArray × Nat):=
 match Xk sort s a 10240 with
 | .error k=>.error (k,a)
 | .ok x=>.ok x
def Qib(s:ByteArray)(a:Nat):Except Flt (Int × Nat):=
 match tkR 0 s a with
 | .error f=>.error f
 | .ok x=>.ok (x.1,x.2.2)
def Qfp(s:ByteArray)(a:Nat):Except Flt (ByteArray × Nat):=
 match tkR 1 s a with
 | .error f=>.error f
 | .ok x=>if x.2.1.size=32 then .ok (x.2.1,x.2.2)else .error (5,0)
def Qci(s:ByteArray)(most:Nat)(a:Nat):Except Flt (Nat × Nat):=
 match tkR 3 s a with
 | .error f=>.error f
 | .ok x=>if x.1≤most then .ok (x.1.toNat,x.2.2)else .error (3,0)
def rmany{α:Type}(rd:Nat→Except Flt (α × Nat)):Nat→Nat→List α→Except Flt (List α × Nat)
 | 0,a,l=>.ok (l,a)
 | n+1,a,l=>
  match rd a with
  | .error f=>.error f
  | .ok x=>rmany rd n x.2 (l++[x.1])
structure GSpec where
 key:ByteArray
 must:Bool
 offs:List Nat
 empty:Rcd→Bool
 read:Rcd→Nat→Except Flt (Rcd × Nat)
def GSpec.zero:GSpec:=⟨ByteArray.empty,false,[],λ _=>true,λ x a=>.ok (x,a)⟩
def gth(l:List GSpec)(i:Nat):GSpec:=l.getD i GSpec.zero
theorem Qax(l:List GSpec)(i:Nat)(h:i<l.length):gth l i=l[i]:=by unfold gth;rw[List.getD_eq_getElem?_getD,List.getElem?_eq_getElem h];rfl
def Jt(fs:List GSpec)(fr:Nat)(k:ByteArray):Option Nat:=(List.range (fs.length - fr)).find? (λ i=>(gth fs (fr+i)).key.toList == k.toList)
theorem Qic{fs:List GSpec}{fr:Nat}{k:ByteArray}(h:∀i,i<fs.length - fr→((gth fs (fr+i)).key.toList == k.toList)=false):Jt fs fr k=none:=by
 unfold Jt
 rw[List.find?_eq_none]
 intro i hi
 rw[h i (List.mem_range.1 hi)];decide
theorem Qqo{p:Nat→Bool}{n j:Nat}(hj:j<n)(hp:p j=true)(hn:∀i,i<j→p i=false):(List.range n).find? p=some j:=by
 rw[List.find?_range_eq_some]
 refine⟨hp,by simpa using hj,λ i hi=>by rw[hn i hi];rfl⟩
theorem Qid{fs:List GSpec}{fr j:Nat}{k:ByteArray}(hj:j<fs.length - fr)(hp:((gth fs (fr+j)).key.toList == k.toList)=true)(hn:∀i,i<j→((gth fs (fr+i)).key.toList == k.toList)=false):Jt fs fr k=some j:=
 Qqo hj hp hn
def Xw(fs:List GSpec)(seen:List Nat):Bool:=(List.range fs.length).any λ i=>(gth fs i).must && !seen.contains i
def Qy(s:ByteArray)(fs:List GSpec):Nat→Nat→Rcd→List Nat→Nat→Except Flt (Rcd × List Nat × Nat)
 | 0,_,x,seen,a=>.ok (x,seen,a)
 | n+1,fr,x,seen,a=>
  match tkR 2 s a with
  | .error f=>.error f
  | .ok k=>
   match Jt fs fr k.2.1 with
   | none=>.error (5,0)
   | some j=>
    match (gth fs (fr+j)).read x k.2.2 with
    | .error f=>.error f
    | .ok y=>if(gth fs (fr+j)).empty y.1 then .error (5,0)else Qy s fs n (fr+j+1) y.1 ((fr+j) :: seen) y.2
def Qbr(s:ByteArray)(fs:List GSpec)(x:Rcd)(a:Nat):Except Flt (Rcd × Nat):=
 match tkR 4 s a with
 | .error f=>.error f
 | .ok n=>
  match Qy s fs n.1.toNat 0 x [] n.2.2 with
  | .error f=>.error f
  | .ok y=>if Xw fs y.2.1 then .error (5,0)else .ok (y.1,y.2.2)
def Xg(s:ByteArray)(fs:List GSpec)(x:Rcd):Except Flt Rcd:=
 match Qbr s fs x 0 with
 | .error f=>.error f
 | .ok y=>if y.2<s.size then .error (5,y.2)else .ok y.1
def Qbl(s key:ByteArray)(o:Nat):GSpec:=⟨key,false,[o],λ x=>Qae (x o),λ x a=>match Qib s a with | .error f=>.error f | .ok y=>.ok (upd x o (.num y.1),y.2)⟩
def Qam(s key:ByteArray)(o:Nat):GSpec:=⟨key,false,[o],λ x=>Qae (x o),λ x a=>match Qib s a with | .error f=>.error f | .ok y=>.ok (upd x o (.flag (y.1 == 1)),y.2)⟩
def Qb4(s key:ByteArray)(o:Nat):GSpec:=⟨key,true,[o],λ _=>false,λ x a=>match Qfp s a with | .error f=>.error f | .ok y=>.ok (upd x o (.str y.1),y.2)⟩
def Xh{α:Type}(s key:ByteArray)(o most:Nat)(toD:List α→DV)(rd:Nat→Except Flt (α × Nat)):GSpec:=
 ⟨key,false,[o],λ x=>Qae (x o),λ x a=>match Qci s most a with | .error f=>.error f | .ok k=>match rmany rd k.1 k.2 []with | .error f=>.error f | .ok y=>.ok (upd x o (toD y.1),y.2)⟩
def Qa3(s key:ByteArray)(o most:Nat):GSpec:=Xh s key o most .strs (Qfp s)
def Qgt(s key:ByteArray)(fs:List GSpec):GSpec:=⟨key,fs.any λ g=>g.must,fs.flatMap λ g=>g.offs,λ x=>fs.all λ g=>g.empty x,Qbr s fs⟩
def Zo(s:ByteArray)(o:Nat):List GSpec:=[Qbl s ⟨#[102]⟩ (o+2),Qbl s ⟨#[107]⟩ (o+4),Qbl s ⟨#[108]⟩ (o+3),Qb4 s ⟨#[114]⟩ o,Qbl s ⟨#[119]⟩ (o+1)]
def Qa4(s:ByteArray)(o:Nat):List GSpec:=[Qbl s ⟨#[105]⟩ o,Qa3 s ⟨#[112]⟩ (o+2) 16,Qa3 s ⟨#[118]⟩ (o+1) 67]
def Z3(s:ByteArray)(o:Nat):List GSpec:=[Qgt s ⟨#[103]⟩ (Qa4 s (o+2)),Qbl s ⟨#[108]⟩ o,Qam s ⟨#[115]⟩ (o+1)]
def Qcj(s:ByteArray):List GSpec:=[Qbl s ⟨#[112]⟩ 0,Qgt s ⟨#[113]⟩ (Zo s 6),Qgt s ⟨#[115]⟩ (Z3 s 1)]
def Qvn(s:ByteArray):List GSpec:=[Qbl s ⟨#[102]⟩ 4,Qb4 s ⟨#[104]⟩ 0,Qbl s ⟨#[108]⟩ 5,Qbl s ⟨#[110]⟩ 2,Qb4 s ⟨#[118]⟩ 1,Qbl s ⟨#[119]⟩ 3]
def Qhq(s:ByteArray):List GSpec:=[Qb4 s ⟨#[112]⟩ 1,Qbl s ⟨#[114]⟩ 0,Qb4 s ⟨#[115]⟩ 3,Qb4 s ⟨#[116]⟩ 2]
def DV.n:DV→Int | .num n=>n | _=>0
def DV.q:DV→Bool | .flag q=>q | _=>false
def DV.s:DV→ByteArray | .str s=>s | _=>ByteArray.empty
def DV.l:DV→List ByteArray | .strs l=>l | _=>[]
def DV.ns:DV→List Int | .nums l=>l | _=>[]
def DV.rs:DV→List RevD | .revs l=>l | _=>[]
def Qnv(x:Rcd):RevD:=⟨(x 0).n,(x 1).n,(x 2).q,(x 3).n,(x 4).l,(x 5).l,(x 6).s,(x 7).n,(x 8).n,(x 9).n,(x 10).n⟩
def revC(r:RevD):Rcd:=λ i=>match i with
 | 0=>.num r.pos | 1=>.num r.L | 2=>.flag r.signed | 3=>.num r.idx | 4=>.strs r.ws | 5=>.strs r.ps | 6=>.str r.root | 7=>.num r.wt | 8=>.num r.first | 9=>.num r.life | _=>.num r.keys
def Xl:Rcd:=λ i=>match i with | 0=>.str ⟨#[]⟩ | _=>.num 0
def Xd:Rcd:=λ i=>match i with | 1=>.flag false | 3=>.strs [] | 4=>.strs [] | _=>.num 0
def Jq:Rcd:=λ i=>match i with | 2=>.flag false | 4=>.strs [] | 5=>.strs [] | 6=>.str ⟨#[]⟩ | _=>.num 0
def Q7:Rcd:=λ i=>match i with | 0=>.str ⟨#[]⟩ | 2=>.revs [] | 3=>.nums [] | 4=>.strs [] | 5=>.strs [] | _=>.num 0
def msg0:Rcd:=λ i=>match i with | 0=>.str ⟨#[]⟩ | 1=>.str ⟨#[]⟩ | _=>.num 0
def Qyh:Rcd:=λ i=>match i with | 1=>.str ⟨#[]⟩ | 2=>.str ⟨#[]⟩ | 3=>.str ⟨#[]⟩ | _=>.num 0
def Qsf(s:ByteArray)(a:Nat):Except Flt (RevD × Nat):=
 match Qbr s (Qcj s) Jq a with
 | .error f=>.error f
 | .ok y=>.ok (Qnv y.1,y.2)
def Zp(s:ByteArray):List GSpec:=[Qa3 s ⟨#[80]⟩ 5 10240,Qa3 s ⟨#[83]⟩ 4 10240,Qb4 s ⟨#[99]⟩ 0,Xh s ⟨#[112]⟩ 3 640 .nums (Qib s),Xh s ⟨#[114]⟩ 2 640 .revs (Qsf s),Qbl s ⟨#[119]⟩ 1]
def GSpec.Frames(g:GSpec):Prop:=∀x a y,g.read x a=.ok y→∀i,i ∉ g.offs→y.1 i=x i
theorem Xi(s key:ByteArray)(o:Nat):(Qbl s key o).Frames:=λ x a y h i hi=>by
 simp only[Qbl]at h hi
 split at h
 ·cases h
 ·cases h;exact Zg (by simpa using hi)
theorem Ql9(s key:ByteArray)(o:Nat):(Qam s key o).Frames:=λ x a y h i hi=>by
 simp only[Qam]at h hi
 split at h
 ·cases h
 ·cases h;exact Zg (by simpa using hi)
theorem Qaf(s key:ByteArray)(o:Nat):(Qb4 s key o).Frames:=λ x a y h i hi=>by
 simp only[Qb4]at h hi
 split at h
 ·cases h
 ·cases h;exact Zg (by simpa using hi)
theorem Qaj{α:Type}(s key:ByteArray)(o most:Nat)(toD:List α→DV)(rd:Nat→Except Flt (α × Nat)):(Xh s key o most toD rd).Frames:=λ x a y h i hi=>by
 simp only[Xh]at h hi
 split at h
 ·cases h
 ·split at h
  ·cases h
  ·cases h;exact Zg (by simpa using hi)
theorem Qdn{fs:List GSpec}{fr j:Nat}{k:ByteArray}(h:Jt fs fr k=some j):fr+j<fs.length:=by
 unfold Jt at h
 have:=List.mem_of_find?_eq_some h
 rw[List.mem_range]at this
 omega
theorem Qej{s:ByteArray}{fs:List GSpec}(hf:∀g ∈ fs,g.Frames):∀(n fr:Nat) (x:Rcd) (seen:List Nat) (a:Nat) (y:Rcd × List Nat × Nat),Qy s fs n fr x seen a=.ok y→∀i,i ∉ fs.flatMap (λ g=>g.offs)→y.1 i=x i
 | 0,fr,x,seen,a,y,h,i,hi=>by simp only[Qy]at h;cases h;rfl
 | n+1,fr,x,seen,a,y,h,i,hi=>by
  simp only[Qy]at h
  split at h
  ·cases h
  ·split at h
   ·cases h
   ·next j hj=>
    have hl:=Qdn hj;have hm:gth fs (fr+j) ∈ fs:=by rw[Qax fs _ hl];exact List.getElem_mem _
    split at h
    ·cases h
    ·next z hz=>
     split at h
     ·cases h
     ·rw[Qej hf n _ _ _ _ y h i hi]
      exact hf _ hm _ _ _ hz i (λ hin=>hi (List.mem_flatMap.2 ⟨_,hm,hin⟩))
theorem Qcz{s key:ByteArray}{fs:List GSpec}(hf:∀g ∈ fs,g.Frames):(Qgt s key fs).Frames:=λ x a y h i hi=>by
 simp only[Qgt,Qbr]at h hi
 split at h
 ·cases h
 ·split at h
  ·cases h
  ·next z hz=>
   split at h
   ·cases h
   ·cases h;exact Qej hf _ _ _ _ _ z hz i hi
def Zj:DV→Nat
 | .num _=>0 | .flag _=>1 | .str _=>2 | .strs _=>3 | .nums _=>4 | .revs _=>5
def Kd(x0 x:Rcd):Prop:=∀i,Zj (x i)=Zj (x0 i)
def GSpec.Kinds(x0:Rcd)(g:GSpec):Prop:=∀x a y,g.read x a=.ok y→Kd x0 x→Kd x0 y.1
theorem Kd.upd{x0 x:Rcd}(h:Kd x0 x){o:Nat}{d:DV}(hd:Zj d=Zj (x0 o)):Kd x0 (upd x o d):=λ i=>by
 by_cases e:i=o
 ·subst e;rw[Xc];exact hd
 ·rw[Zg e];exact h i
theorem Kd.num{x0 x:Rcd}(h:Kd x0 x){o:Nat}(h0:Zj (x0 o)=0):∃n,x o=.num n:=by
 have:=(h o).trans h0
 cases hx:x o <;> rw[hx]at this <;> first | exact⟨_,rfl⟩ | cases this
theorem Kd.flag{x0 x:Rcd}(h:Kd x0 x){o:Nat}(h0:Zj (x0 o)=1):∃n,x o=.flag n:=by
 have:=(h o).trans h0
 cases hx:x o <;> rw[hx]at this <;> first | exact⟨_,rfl⟩ | cases this
theorem Xt{x0:Rcd}(s key:ByteArray){o:Nat}(h0:Zj (x0 o)=0):(Qbl s key o).Kinds x0:=λ x a y h hk=>by
 simp only[Qbl]at h
 split at h
 ·cases h
 ·cases h;exact hk.upd h0.symm
theorem Qn6{x0:Rcd}(s key:ByteArray){o:Nat}(h0:Zj (x0 o)=1):(Qam s key o).Kinds x0:=λ x a y h hk=>by
 simp only[Qam]at h
 split at h
 ·cases h
 ·cases h;exact hk.upd h0.symm
theorem Qa5{x0:Rcd}(s key:ByteArray){o:Nat}(h0:Zj (x0 o)=2):(Qb4 s key o).Kinds x0:=λ x a y h hk=>by
 simp only[Qb4]at h
 split at h
 ·cases h
 ·cases h;exact hk.upd h0.symm
theorem Qa6{x0:Rcd}{α:Type}(s key:ByteArray){o most:Nat}{toD:List α→DV}{rd:Nat→Except Flt (α × Nat)}(h0:∀l,Zj (toD l)=Zj (x0 o)):(Xh s key o most toD rd).Kinds x0:=λ x a y h hk=>by
 simp only[Xh]at h
 split at h
 ·cases h
 ·split at h
  ·cases h
  ·cases h;exact hk.upd (h0 _)
theorem Qfq{x0:Rcd}{s:ByteArray}{fs:List GSpec}(hf:∀g ∈ fs,g.Kinds x0):∀(n fr:Nat) (x:Rcd) (seen:List Nat) (a:Nat) (y:Rcd × List Nat × Nat),Qy s fs n fr x seen a=.ok y→Kd x0 x→Kd x0 y.1
 | 0,fr,x,seen,a,y,h,hk=>by simp only[Qy]at h;cases h;exact hk
 | n+1,fr,x,seen,a,y,h,hk=>by
  simp only[Qy]at h
  split at h
  ·cases h
  ·split at h
   ·cases h
   ·next j hj=>
    have hl:=Qdn hj;have hm:gth fs (fr+j) ∈ fs:=by rw[Qax fs _ hl];exact List.getElem_mem _
    split at h
    ·cases h
    ·next z hz=>
     split at h
     ·cases h
     ·exact Qfq hf n _ _ _ _ y h (hf _ hm _ _ _ hz hk)
theorem Qd1{x0:Rcd}{s key:ByteArray}{fs:List GSpec}(hf:∀g ∈ fs,g.Kinds x0):(Qgt s key fs).Kinds x0:=λ x a y h hk=>by
 simp only[Qgt,Qbr]at h
 split at h
 ·cases h
 ·split at h
  ·cases h
  ·next z hz=>
   split at h
   ·cases h
   ·cases h;exact Qfq hf _ _ _ _ _ z hz hk
def Qcb(f:Nat):List PanicEntry:=[{ v:=.iface 193 (.agg #[.iface 127 (pt f 0)]),recovered:=false }]
theorem Qie(k:Int)(w:World):Calls Tryz.prog 204 #[.bool true,.int .i64 k] w λ e w'=>e=.returned (.tuple #[])∧w'=w:=by
 go_enter Tryz.func204,Tryz.ntmps204
 go_wp2
 go_end0
 exact⟨rfl,rfl⟩
theorem Qgu(k:Int)(w:World):Calls Tryz.prog 204 #[.bool false,.int .i64 k] w λ e w'=>e=.panicked (Qcb w.heap.size)∧w'=w.alloc (.cells #[.int .i64 k,.int .i64 0] 63):=by
 go_enter Tryz.func204,Tryz.ntmps204
 go_wp2
 exact⟨rfl,rfl,rfl⟩
theorem Qif(n:Int)(w:World):Calls Tryz.prog 151 #[.int .u64 n,.nilIface] w λ e w'=>e=.returned (.int .u64 n)∧w'=w:=by
 go_enter Tryz.func151,Tryz.ntmps151
 go_wp2
 go_ret
 exact⟨rfl,rfl⟩
theorem Qig(n:Int)(f:Nat)(w:World):Calls Tryz.prog 151 #[.int .u64 n,.iface 127 (pt f 0)] w λ e w'=>e=.panicked (Qcb f)∧w'=w:=by
 go_enter Tryz.func151,Tryz.ntmps151
 go_wp2
 exact⟨rfl,rfl,rfl⟩
theorem Qma(n:Int)(w:World):Calls Tryz.prog 198 #[.int .i64 n,.nilIface] w λ e w'=>e=.returned (.int .i64 n)∧w'=w:=by
 go_enter Tryz.func198,Tryz.ntmps198
 go_wp2
 go_ret
 exact⟨rfl,rfl⟩
theorem Qmb(n:Int)(f:Nat)(w:World):Calls Tryz.prog 198 #[.int .i64 n,.iface 127 (pt f 0)] w λ e w'=>e=.panicked (Qcb f)∧w'=w:=by
 go_enter Tryz.func198,Tryz.ntmps198
 go_wp2
 exact⟨rfl,rfl,rfl⟩
theorem Qmc(s:ByteArray)(w:World):Calls Tryz.prog 200 #[.string s,.nilIface] w λ e w'=>e=.returned (.string s)∧w'=w:=by
 go_enter Tryz.func200,Tryz.ntmps200
 go_wp2
 go_ret
 exact⟨rfl,rfl⟩
theorem Qmd(s:ByteArray)(f:Nat)(w:World):Calls Tryz.prog 200 #[.string s,.iface 127 (pt f 0)] w λ e w'=>e=.panicked (Qcb f)∧w'=w:=by
 go_enter Tryz.func200,Tryz.ntmps200
 go_wp2
 exact⟨rfl,rfl,rfl⟩
def Qve(res:Except Flt (Int × ByteArray × Nat))(val:Int × ByteArray × Nat→Value)(zero:Value)(rb:Nat)(s:ByteArray)(w:World)(e:Ending)(w':World):Prop:=
 Jg (some rb) w w'∧match res with
  | .ok x=>e=.returned (.tuple #[val x,.nilIface])∧RdB w' rb s x.2.2 10240
  | .error f=>∃fb,e=.returned (.tuple #[zero,.iface 127 (pt fb 0)])∧FltB w' fb f.1 f.2∧w.heap.size≤fb
theorem Qew{x:Int × ByteArray × Nat}{val:Int × ByteArray × Nat→Value}{zero:Value}{rb:Nat}{s:ByteArray}{w w':World}{e:Ending}(h:Qve (.ok x) val zero rb s w e w'):e=.returned (.tuple #[val x,.nilIface])∧RdB w' rb s x.2.2 10240∧Jg (some rb) w w':=⟨h.2.1,h.2.2,h.1⟩
theorem Qc0{f:Flt}{val:Int × ByteArray × Nat→Value}{zero:Value}{rb:Nat}{s:ByteArray}{w w':World}{e:Ending}(h:Qve (.error f) val zero rb s w e w'):∃fb,e=.returned (.tuple #[zero,.iface 127 (pt fb 0)])∧FltB w' fb f.1 f.2∧Jg (some rb) w w'∧w.heap.size≤fb:=by
 obtain⟨h1,fb,h2,h3,h4⟩:=h;exact⟨fb,h2,h3,h1,h4⟩
theorem Qsg{sort rb a:Nat}{s:ByteArray}{w w':World}{e:Ending}(h12:sort=1 ∨ sort=2)(h:Qeg (Qbc s a 10240 (Xv sort)) (.string ⟨#[]⟩) rb s 10240 a w e w'):Qve (tkR sort s a) (λ x=>.string x.2.1) (.string ⟨#[]⟩) rb s w e w':=by
 obtain⟨h1,h2⟩:=h
 refine⟨h1,?_⟩
 unfold tkR
 rcases Qse (s:=s) (a:=a) (most:=10240) h12 with⟨k,e1,e2⟩ | ⟨n,t,a',e1,e2,-,-⟩
 ·rw[e1]at h2;rw[e2]
  obtain⟨-,fb,h3,h5,h4⟩:=h2
  exact⟨fb,h3,h4,h5⟩
 ·rw[e1]at h2;rw[e2]
  exact h2
theorem Qpc{sort rb a:Nat}{s:ByteArray}{w w':World}{e:Ending}(h34:sort=3 ∨ sort=4)(h:Qeg (Qad s a 10240 (Xv sort)) (.int .i64 0) rb s 10240 a w e w'):Qve (tkR sort s a) (λ x=>.int .i64 x.1) (.int .i64 0) rb s w e w':=by
 obtain⟨h1,h2⟩:=h
 refine⟨h1,?_⟩
 unfold tkR
 rcases Qqk (s:=s) (a:=a) (most:=10240) h34 with⟨k,e1,e2⟩ | ⟨n,a',e1,e2,-⟩
 ·rw[e1]at h2;rw[e2]
  obtain⟨-,fb,h3,h5,h4⟩:=h2
  exact⟨fb,h3,h4,h5⟩
 ·rw[e1]at h2;rw[e2]
  exact h2
theorem Q0c{rb a:Nat}{s:ByteArray}{w w':World}{e:Ending}(h:Qeg (Qku s a Qa2) (.int .u64 0) rb s 10240 a w e w'):Qve (tkR 0 s a) (λ x=>.int .u64 x.1) (.int .u64 0) rb s w e w':=by
 obtain⟨h1,h2⟩:=h
 refine⟨h1,?_⟩
 unfold tkR
 rcases Qvm (s:=s) (a:=a) (most:=10240)with⟨k,e1,e2⟩ | ⟨n,a',e1,e2⟩
 ·rw[e1]at h2;rw[e2]
  obtain⟨-,fb,h3,h5,h4⟩:=h2
  exact⟨fb,h3,h4,h5⟩
 ·rw[e1]at h2;rw[e2]
  exact h2
theorem Qck{sort:Nat}{s:ByteArray}{a:Nat}{x:Int × ByteArray × Nat}(h5:sort<5)(h:tkR sort s a=.ok x):x.2.2≤s.size∧0≤x.1∧(sort≠0→x.1≤10240)∧x.1≤18446744073709551615∧x.2.1.size≤s.size:=by
 unfold tkR at h
 split at h
 ·cases h
 ·next y hy=>
  cases h
  refine⟨Ql8 hy,?_⟩
  unfold Xk at hy
  cases hh:Xa (s.extract a s.size) (Xv sort)with
  | error k=>rw[hh]at hy;cases hy
  | ok z=>
   obtain⟨n,rest⟩:=z
   rw[hh]at hy
   simp only at hy
   have hok:∀i,(Ja (Xv sort) i).Ok:=by
    have:sort=0 ∨ sort=1 ∨ sort=2 ∨ sort=3 ∨ sort=4:=by omega
    rcases this with rfl | rfl | rfl | rfl | rfl
    ·exact Qfl
    ·exact Qho
    ·exact Qhp
    ·exact Qfm
    ·exact Qfn
   obtain⟨n0,n1,hr⟩:=Qgs hok hh
   rw[ByteArray.size_extract]at hr
   by_cases h1:sort≠0∧(10240:Int)<n
   ·rw[if_pos h1]at hy;cases hy
   ·rw[if_neg h1]at hy
    have n2:sort≠0→n≤10240:=λ h0=>by
     rcases Int.lt_or_le 10240 n with h2 | h2
     ·exact absurd ⟨h0,h2⟩ h1
     ·exact h2
    split at hy
    ·split at hy
     ·cases hy
     ·cases hy;exact⟨n0,n2,n1,by rw[ByteArray.size_extract];omega⟩
    ·cases hy;exact⟨n0,n2,n1,Nat.zero_le _⟩
structure RdEnv(B:Nat)(w:World)(qb rb:Nat)(s:ByteArray)(a:Nat):Prop where
 q:w.heap[qb]?=some (.cells #[pt rb 0] 199 (0,0))
 r:RdB w rb s a 10240
 tabs:Tabs B w
 bq:B≤qb
 br:B≤rb
 ne:qb≠rb
 at_le:a≤s.size
 sz:s.size≤9223372036854775807
theorem RdEnv.below{B:Nat}{w w':World}{qb rb:Nat}{s:ByteArray}{a:Nat}(h:RdEnv B w qb rb s a)(hb:Below w.heap.size w w'):RdEnv B w' qb rb s a:=
 ⟨(hb.block _ (lt_of_block h.q)).trans h.q,h.r.below hb,h.tabs.below hb,h.bq,h.br,h.ne,h.at_le,h.sz⟩
theorem Qme(w:World)(B qb rb:Nat)(s:ByteArray)(a:Nat)(h:RdEnv B w qb rb s a):Calls Tryz.prog 152 #[pt rb 0] w (Qve (tkR 0 s a) (λ x=>.int .u64 x.1) (.int .u64 0) rb s w):=
 (Qya w B rb s a 10240 h.tabs h.r h.at_le h.sz).mono λ e w' hh=>Q0c hh
theorem Q0d(w:World)(B qb rb:Nat)(s:ByteArray)(a:Nat)(h:RdEnv B w qb rb s a):Calls Tryz.prog 241 #[pt rb 0] w (Qve (tkR 1 s a) (λ x=>.string x.2.1) (.string ⟨#[]⟩) rb s w):=
 (Qx7 w B rb s a 10240 h.tabs h.r h.at_le h.sz (by decide) (by decide)).mono λ e w' hh=>Qsg (sort:=1) (.inl rfl) hh
theorem Q0e(w:World)(B qb rb:Nat)(s:ByteArray)(a:Nat)(h:RdEnv B w qb rb s a):Calls Tryz.prog 201 #[pt rb 0] w (Qve (tkR 2 s a) (λ x=>.string x.2.1) (.string ⟨#[]⟩) rb s w):=
 (Qx8 w B rb s a 10240 h.tabs h.r h.at_le h.sz (by decide) (by decide)).mono λ e w' hh=>Qsg (sort:=2) (.inr rfl) hh
theorem Qyi(w:World)(B qb rb:Nat)(s:ByteArray)(a:Nat)(h:RdEnv B w qb rb s a):Calls Tryz.prog 254 #[pt rb 0] w (Qve (tkR 3 s a) (λ x=>.int .i64 x.1) (.int .i64 0) rb s w):=
 (Qvi w B rb s a 10240 h.tabs h.r h.at_le h.sz (by decide) (by decide)).mono λ e w' hh=>Qpc (sort:=3) (.inl rfl) hh
theorem Q0f(w:World)(B qb rb:Nat)(s:ByteArray)(a:Nat)(h:RdEnv B w qb rb s a):Calls Tryz.prog 199 #[pt rb 0] w (Qve (tkR 4 s a) (λ x=>.int .i64 x.1) (.int .i64 0) rb s w):=
 (Qx9 w B rb s a 10240 h.tabs h.r h.at_le h.sz (by decide) (by decide)).mono λ e w' hh=>Qpc (sort:=4) (.inr rfl) hh
def VIs{α:Type}(res:Except Flt (α × Nat))(val:α→Value)(rb:Nat)(s:ByteArray)(w:World)(e:Ending)(w':World):Prop:=
 Jg (some rb) w w'∧match res with
  | .ok x=>e=.returned (val x.1)∧RdB w' rb s x.2 10240∧x.2≤s.size
  | .error f=>∃fb,e=.panicked (Qcb fb)∧FltB w' fb f.1 f.2
theorem Qmf{α:Type}{x:α × Nat}{val:α→Value}{rb:Nat}{s:ByteArray}{w w':World}{e:Ending}(h:VIs (.ok x) val rb s w e w'):e=.returned (val x.1)∧RdB w' rb s x.2 10240∧x.2≤s.size∧Jg (some rb) w w':=⟨h.2.1,h.2.2.1,h.2.2.2,h.1⟩
theorem Qih{α:Type}{f:Flt}{val:α→Value}{rb:Nat}{s:ByteArray}{w w':World}{e:Ending}(h:VIs (.error f:Except Flt (α × Nat)) val rb s w e w'):∃fb,e=.panicked (Qcb fb)∧FltB w' fb f.1 f.2∧Jg (some rb) w w':=by
 obtain⟨h1,fb,h2,h3⟩:=h;exact⟨fb,h2,h3,h1⟩
theorem Qmg{rb:Nat}{a b c:World}(h:Jg (some rb) a b)(k:Below b.heap.size b c):Jg (some rb) a c:=Qdx _ _ _ _ h (Qhl k)
theorem Qgv(B qb rb:Nat)(s:ByteArray)(a:Nat)(w:World)(h:RdEnv B w qb rb s a):
  Calls Tryz.prog 195 #[pt qb 0] w (VIs (Qfp s a) Value.string rb s w):=by
 have H:=QLh h;have c0:w.cell? ⟨qb,0,none⟩=some (pt rb 0):=Qa h.q 0;clear h
 go_enter Tryz.func195,Tryz.ntmps195
 go_wp2_with fail
 refine(Q0d w B qb rb s a H.out).mono ?_
 intro e w1 hh
 cases hr:tkR 1 s a with
 | error f=>
  rw[hr]at hh
  obtain⟨fb,rfl,hf,hE,-⟩:=Qc0 hh
  have HF:=QLh hf;have HE:=QLh hE;have HR:Hid (Qfp s a=.error f):=QLh (by unfold Qfp;rw[hr]);clear hh hf hE hr
  go_wp2_with fail
  refine(Qmd _ fb w1).mono ?_
  rintro e w2 ⟨rfl,rfl⟩
  go_wp2
  refine⟨rfl,?_⟩
  rw[HR.out]
  exact⟨HE.out,fb,rfl,HF.out⟩
 | ok x=>
  rw[hr]at hh
  obtain⟨rfl,hrd,hE⟩:=Qew hh
  have HRD:=QLh hrd;have HE:=QLh hE;have hbd:=Qck (by decide) hr;have HR:=QLh hr;have hs:=H.out.sz;clear hh hrd hE hr
  go_wp2_with fail
  refine(Qmc _ w1).mono ?_
  rintro e w2 ⟨rfl,rfl⟩
  by_cases h32:x.2.1.size=32
  ·have HS:=QLh h32
   have t1:((x.2.1.size:Int) == 32)=true:=by simp;omega
   clear h32
   go_wp2_with fail
   refine(Qie 5 w2).mono ?_
   rintro e w3 ⟨rfl,rfl⟩
   go_wp2
   go_ret
   unfold Qfp
   rw[HR.out]
   simp only[if_pos HS.out]
   exact⟨HE.out,rfl,HRD.out,hbd.1⟩
  ·have HS:=QLh h32
   have t1:((x.2.1.size:Int) == 32)=false:=by simp;omega
   clear h32
   go_wp2_with fail
   refine(Qgu 5 w2).mono ?_
   rintro e w3 ⟨rfl,rfl⟩
   go_wp2
   refine⟨rfl,?_⟩
   unfold Qfp
   rw[HR.out]
   simp only[if_neg HS.out]
   exact⟨Qmg HE.out (Qh (Below.refl _ _) _),_,rfl,heap_alloc_new _ _⟩
theorem Qgw(B qb rb:Nat)(s:ByteArray)(a most:Nat)(w:World)(h:RdEnv B w qb rb s a):
  Calls Tryz.prog 221 #[pt qb 0,.int .i64 most] w (VIs (Qci s most a) (λ k=>.int .i64 (k:Nat)) rb s w):=by
 have H:=QLh h;have c0:w.cell? ⟨qb,0,none⟩=some (pt rb 0):=Qa h.q 0;clear h
 go_enter Tryz.func221,Tryz.ntmps221
 go_wp2_with fail
 refine(Qyi w B qb rb s a H.out).mono ?_
 intro e w1 hh
 cases hr:tkR 3 s a with
 | error f=>
  rw[hr]at hh
  obtain⟨fb,rfl,hf,hE,-⟩:=Qc0 hh
  have HF:=QLh hf;have HE:=QLh hE;have HR:Hid (Qci s most a=.error f):=QLh (by unfold Qci;rw[hr]);clear hh hf hE hr
  go_wp2_with fail
  refine(Qmb _ fb w1).mono ?_
  rintro e w2 ⟨rfl,rfl⟩
  go_wp2
  refine⟨rfl,?_⟩
  rw[HR.out]
  exact⟨HE.out,fb,rfl,HF.out⟩
 | ok x=>
  rw[hr]at hh
  obtain⟨rfl,hrd,hE⟩:=Qew hh
  have HRD:=QLh hrd;have HE:=QLh hE;have hbd:=Qck (by decide) hr;have HR:=QLh hr;clear hh hrd hE hr
  go_wp2_with fail
  refine(Qma _ w1).mono ?_
  rintro e w2 ⟨rfl,rfl⟩
  by_cases h32:x.1≤most
  ·have HS:=QLh h32
   have t1:decide (x.1≤(most:Int))=true:=decide_eq_true h32
   go_wp2_with fail
   refine(Qie 3 w2).mono ?_
   rintro e w3 ⟨rfl,rfl⟩
   go_wp2
   go_ret
   unfold Qci
   rw[HR.out]
   simp only[if_pos HS.out]
   exact⟨HE.out,congrArg (λ n=>Ending.returned (.int .i64 n)) (show x.1=((x.1.toNat:Nat):Int)by omega),HRD.out,hbd.1⟩
  ·have HS:=QLh h32
   have t1:decide (x.1≤(most:Int))=false:=decide_eq_false h32
   go_wp2_with fail
   refine(Qgu 3 w2).mono ?_
   rintro e w3 ⟨rfl,rfl⟩
   go_wp2
   refine⟨rfl,?_⟩
   unfold Qci
   rw[HR.out]
   simp only[if_neg (show ¬x.1≤(most:Int)by have:=HS.out;omega)]
   exact⟨Qmg HE.out (Qh (Below.refl _ _) _),_,rfl,heap_alloc_new _ _⟩
structure Rev where
 pos:Int
 L:Int
 signed:Bool
 idx:Int
 wa:Option Addr
 wn:Nat
 wc:Nat
 pa:Option Addr
 pn:Nat
 pc:Nat
 root:ByteArray
 wt:Int
 first:Int
 life:Int
 keys:Int
abbrev Rev.val(r:Rev):Value:=.agg #[.int .u64 r.pos,.int .u64 r.L,.bool r.signed,.int .u64 r.idx,.slice r.wa r.wn r.wc,.slice r.pa r.pn r.pc,.string r.root,.int .u64 r.wt,.int .u64 r.first,.int .u64 r.life,.int .u64 r.keys]
def Rev.zero:Rev:=⟨0,0,false,0,none,0,0,none,0,0,ByteArray.empty,0,0,0,0⟩
def Qlz(l:List Rev)(i:Nat):Rev:=l.getD i Rev.zero
theorem Qex(l:List Rev)(i:Nat)(h:i<l.length):Qlz l i=l[i]:=by
 unfold Qlz;rw[List.getD_eq_getElem?_getD,List.getElem?_eq_getElem h];rfl
structure RevAt(w:World)(b o:Nat)(r:Rev):Prop where
 c0:w.cell? ⟨b,o,none⟩=some (.int .u64 r.pos)
 c1:w.cell? ⟨b,o+1,none⟩=some (.int .u64 r.L)
 c2:w.cell? ⟨b,o+2,none⟩=some (.bool r.signed)
 c3:w.cell? ⟨b,o+3,none⟩=some (.int .u64 r.idx)
 c4:w.cell? ⟨b,o+4,none⟩=some (.slice r.wa r.wn r.wc)
 c5:w.cell? ⟨b,o+5,none⟩=some (.slice r.pa r.pn r.pc)
 c6:w.cell? ⟨b,o+6,none⟩=some (.string r.root)
 c7:w.cell? ⟨b,o+7,none⟩=some (.int .u64 r.wt)
 c8:w.cell? ⟨b,o+8,none⟩=some (.int .u64 r.first)
 c9:w.cell? ⟨b,o+9,none⟩=some (.int .u64 r.life)
 c10:w.cell? ⟨b,o+10,none⟩=some (.int .u64 r.keys)
def Revs(w:World)(a:Option Addr)(l:List Rev):Prop:=
 ∀i,i<len l→∃b off,a=some ⟨b,off,none⟩∧RevAt w b (off+i * 11) (Qlz l i)
def Rev.cells(r:Rev):List Value:=[.int .u64 r.pos,.int .u64 r.L,.bool r.signed,.int .u64 r.idx,.slice r.wa r.wn r.wc,.slice r.pa r.pn r.pc,.string r.root,.int .u64 r.wt,.int .u64 r.first,.int .u64 r.life,.int .u64 r.keys]
theorem Qkx:(Tryz.prog.info? 48).map (λ i=>(i.zero,i.size,i.bytes))=some (some (.agg Rev.zero.cells.toArray),11,128):=by kernel_rfl
theorem Rev.cells_length(r:Rev):r.cells.length=11:=rfl
theorem Qvo{w:World}{base e n:Nat}{v:Value}{l:List Rev}(h:w.ownsRow base e 11 v n (l.flatMap Rev.cells)):∃a cap,v=.slice a (len l) cap∧Revs w a l∧len l≤cap:=by
 have hn:len l=n:=by
  have:=h.1;rw[Qac Rev.cells 11 Rev.cells_length]at this;rw[Zm];omega
 obtain⟨h1,h2⟩:=h
 rcases h2 with⟨rfl,h2⟩ | ⟨g,cap,cur,rfl,hg,hh,hc1,hc2,hc3,hc4⟩
 ·obtain rfl:l=[]:=List.eq_nil_of_length_eq_zero (by rw[←Zm];omega)
  exact⟨none,0,rfl,λ i hi=>by simp[len]at hi,Nat.le_refl _⟩
 ·refine⟨some ⟨g,0,none⟩,cap,by rw[hn],λ i hi=>⟨g,0,rfl,?_⟩,by omega⟩
  have hown:w.ownsRow base e 11 (.slice (some ⟨g,0,none⟩) n cap) n (l.flatMap Rev.cells):=⟨h1,.inr ⟨g,cap,cur,rfl,hg,hh,hc1,hc2,hc3,hc4⟩⟩;have key:∀r,r<11→w.cell? ⟨g,0+i * 11+r,none⟩=(Qlz l i).cells[r]?:=λ r hr=>by
   have:=hown.cellAt (i * 11+r) (by rw[←hn];omega)
   rw[Nat.zero_add,this,Qdw Rev.cells 11 Rev.cells_length l i r hi hr,Qex l i hi]
  exact⟨key 0 (by decide),key 1 (by decide),key 2 (by decide),key 3 (by decide),key 4 (by decide),key 5 (by decide),key 6 (by decide),key 7 (by decide),key 8 (by decide),key 9 (by decide),key 10 (by decide)⟩
theorem Qky:(Tryz.prog.info? 9).map (λ i=>(i.zero,i.size,i.bytes))=some (some (.string ⟨#[]⟩),1,16):=by kernel_rfl
def sth(l:List ByteArray)(i:Nat):ByteArray:=l.getD i ByteArray.empty
theorem Qcl(l:List ByteArray)(i:Nat)(h:i<l.length):sth l i=l[i]:=by unfold sth;rw[List.getD_eq_getElem?_getD,List.getElem?_eq_getElem h];rfl
def Txs(w:World)(a:Option Addr)(l:List ByteArray):Prop:=
 ∀i,i<len l→∃b off,a=some ⟨b,off,none⟩∧w.cell? ⟨b,off+i,none⟩=some (.string (sth l i))
theorem Qsh{w:World}{base e n:Nat}{v:Value}{l:List ByteArray}(h:w.ownsRow base e 1 v n (l.map Value.string)):∃a cap,v=.slice a (len l) cap∧Txs w a l:=by
 have hn:len l=n:=by have:=h.1;rw[Zm];simpa using this
 obtain⟨h1,h2⟩:=h
 rcases h2 with⟨rfl,h2⟩ | ⟨g,cap,cur,rfl,hg,hh,hc1,hc2,hc3,hc4⟩
 ·obtain rfl:l=[]:=List.eq_nil_of_length_eq_zero (by rw[←Zm];omega)
  exact⟨none,0,rfl,λ i hi=>by simp[len]at hi⟩
 ·refine⟨some ⟨g,0,none⟩,cap,by rw[hn],λ i hi=>⟨g,0,rfl,?_⟩⟩
  have hown:w.ownsRow base e 1 (.slice (some ⟨g,0,none⟩) n cap) n (l.map Value.string):=⟨h1,.inr ⟨g,cap,cur,rfl,hg,hh,hc1,hc2,hc3,hc4⟩⟩;have:=hown.cellAt i (by omega)
  rw[Nat.zero_add,this,List.getElem?_map,List.getElem?_eq_getElem hi,Qcl l i hi];rfl
def hiL(n:Int):Nat→List Int
 | 0=>[]
 | k+1=>(n / 256 ^ k % 256) :: hiL n k
theorem Qdo(n:Int):∀k,(hiL n k).length=k
 | 0=>rfl
 | k+1=>by rw[hiL,List.length_cons,Qdo n k]
def toB(x:Int):UInt8:=UInt8.ofNat x.toNat
theorem Qyj{x:Int}(h0:0≤x)(h1:x≤255):((toB x).toNat:Int)=x:=by
 unfold toB;rw[UInt8.toNat_ofNat'];omega
theorem Xx{s t:ByteArray}(h:s.data.toList=t.data.toList):s=t:=ByteArray.ext (Array.ext' h)
theorem Qg9(s:ByteArray):s.data.toList.length=s.size:=by rw[Array.length_toList];rfl
def baL(l:List UInt8):ByteArray:=⟨l.toArray⟩
theorem Qhr(l:List UInt8):(baL l).data.toList=l:=rfl
theorem Qbm(l:List UInt8):(baL l).size=l.length:=by show l.toArray.size=_;simp
theorem Qn7(a b:List UInt8):baL (a++b)=baL a++baL b:=Xx (by rw[Qhr,ByteArray.data_append,Array.toList_append,Qhr,Qhr])
structure PRow where
 below:Int
 first:Int
 size:Int
abbrev PRow.val(r:PRow):Value:=.agg #[.int .u64 r.below,.int .u8 r.first,.int .i64 r.size]
def PRow.cells(r:PRow):List Value:=[.int .u64 r.below,.int .u8 r.first,.int .i64 r.size]
def PRow.zero:PRow:=⟨0,0,0⟩
def Qj0(l:List PRow)(i:Nat):PRow:=l.getD i PRow.zero
theorem Qii(l:List PRow)(i:Nat)(h:i<l.length):Qj0 l i=l[i]:=by unfold Qj0;rw[List.getD_eq_getElem?_getD,List.getElem?_eq_getElem h];rfl
structure PRowAt(w:World)(b o:Nat)(r:PRow):Prop where
 c0:w.cell? ⟨b,o,none⟩=some (.int .u64 r.below)
 c1:w.cell? ⟨b,o+1,none⟩=some (.int .u8 r.first)
 c2:w.cell? ⟨b,o+2,none⟩=some (.int .i64 r.size)
def Qsi(w:World)(a:Option Addr)(l:List PRow):Prop:=∀i,i<len l→∃b off,a=some ⟨b,off,none⟩∧PRowAt w b (off+i * 3) (Qj0 l i)
def Qj1(r:PRow)(n:Int):List UInt8:=if r.size=0 then [toB (r.first+n)]else toB r.first :: (hiL n r.size.toNat).map toB
def Xz(sort:Nat):List PRow:=
 match sort with
 | 1=>[⟨256,196,1⟩,⟨65536,197,2⟩]
 | 2=>[⟨32,160,0⟩,⟨256,217,1⟩,⟨65536,218,2⟩]
 | 3=>[⟨16,144,0⟩,⟨65536,220,2⟩]
 | 4=>[⟨16,128,0⟩,⟨65536,222,2⟩]
 | _=>[⟨128,0,0⟩,⟨256,204,1⟩,⟨65536,205,2⟩,⟨4294967296,206,4⟩,⟨0,207,8⟩]
def Xu(sort:Nat)(n:Int):List UInt8:=
 match (Xz sort).find? (λ r=>decide (n<r.below ∨ r.below=0))with
 | some r=>Qj1 r n
 | none=>[]
def Qa7(sort:Nat)(n:Int)(t:ByteArray):ByteArray:=baL (Xu sort n)++(if sort=1 ∨ sort=2 then t else ByteArray.empty)
theorem Qxn(n:Int):Xu 0 n=if n<128 then [toB n]else if n<256 then toB 204 :: (hiL n 1).map toB else if n<65536 then toB 205 :: (hiL n 2).map toB else if n<4294967296 then toB 206 :: (hiL n 4).map toB else toB 207 :: (hiL n 8).map toB:=by
 unfold Xu Xz Qj1
 by_cases h1:n<128
 ·simp[h1]
 ·by_cases h2:n<256
  ·simp[h1,h2]
  ·by_cases h3:n<65536
   ·simp[h1,h2,h3]
   ·by_cases h4:n<4294967296
    ·simp[h1,h2,h3,h4]
    ·simp[h1,h2,h3,h4]
theorem Qxo{n:Int}(h:n<65536):Xu 1 n=if n<256 then toB 196 :: (hiL n 1).map toB else toB 197 :: (hiL n 2).map toB:=by
 unfold Xu Xz Qj1
 by_cases h1:n<256
 ·simp[h1]
 ·simp[h1,h]
theorem Qxp{n:Int}(h:n<65536):Xu 2 n=if n<32 then [toB (160+n)]else if n<256 then toB 217 :: (hiL n 1).map toB else toB 218 :: (hiL n 2).map toB:=by
 unfold Xu Xz Qj1
 by_cases h1:n<32
 ·simp[h1]
 ·by_cases h2:n<256
  ·simp[h1,h2]
  ·simp[h1,h2,h]
theorem Qxq{n:Int}(h:n<65536):Xu 3 n=if n<16 then [toB (144+n)]else toB 220 :: (hiL n 2).map toB:=by
 unfold Xu Xz Qj1
 by_cases h1:n<16
 ·simp[h1]
 ·simp[h1,h]
theorem Qxr{n:Int}(h:n<65536):Xu 4 n=if n<16 then [toB (128+n)]else toB 222 :: (hiL n 2).map toB:=by
 unfold Xu Xz Qj1
 by_cases h1:n<16
 ·simp[h1]
 ·simp[h1,h]
theorem Qfr(sort:Nat)(n:Int):(Xu sort n).length≤9:=by
 unfold Xu
 split
 ·rename_i r hr
  have hm:=List.mem_of_find?_eq_some hr
  unfold Qj1
  split
  ·simp
  ·rw[List.length_cons,List.length_map,Qdo]
   unfold Xz at hm
   split at hm <;> simp at hm <;> (first | (rcases hm with rfl | rfl | rfl | rfl | rfl <;> simp) | (rcases hm with rfl | rfl | rfl <;> simp) | (rcases hm with rfl | rfl <;> simp))
 ·simp
theorem Qsj:(Tryz.prog.info? 5).map (λ i=>(i.zero,i.size,i.bytes))=some (some (.int .u8 0),1,1):=by kernel_rfl
theorem Qj2(x:Int):∀u ∈ [Value.int .u8 x],u.oneCell'=true:=by
 intro u hu;simp at hu;subst hu;rfl
def Qmh(x:Obj):Prop:=∀cs fr,x≠.cells cs 5 fr
theorem Xj{cs:Array Value}{t:TypeId}{fr:Nat × Nat}(h:t≠5):Qmh (.cells cs t fr):=λ _ _ e=>by cases e;exact h rfl
structure WK(base b:Nat)(w w':World):Prop where
 bel:Below base w w'
 keep:∀k x,w.heap[k]?=some x→k≠b→Qmh x→w'.heap[k]?=some x
theorem WK.refl(base b:Nat)(w:World):WK base b w w:=⟨Below.refl _ _,λ _ _ h _ _=>h⟩
theorem WK.trans{base b:Nat}{w w' w'':World}(h:WK base b w w')(k:WK base b w' w''):WK base b w w'':=⟨h.bel.trans k.bel,λ j x hx hj hn=>k.keep j x (h.keep j x hx hj hn) hj hn⟩
theorem WK.of_below{base b:Nat}{w w':World}(h:Below w.heap.size w w')(hb:base≤w.heap.size):WK base b w w':=⟨h.mono hb,λ k x hx _ _=>(h.block k (lt_of_block hx)).trans hx⟩
theorem WK.next{base b:Nat}{w w1 w2:World}(h:WK base b w w1)(k:Below w1.heap.size w1 w2)(hb:base≤w.heap.size):WK base b w w2:=h.trans (WK.of_below k (Nat.le_trans hb h.bel.size))
def WrB(w:World)(b base:Nat)(s:ByteArray):Prop:=base≤b∧∃v,w.heap[b]?=some (.cells #[v] 265 (0,0))∧w.ownsRow base 5 1 v s.size (Lib.strCells s)
theorem WrB.below{w w':World}{b base:Nat}{s:ByteArray}(h:WrB w b base s)(hb:Below w.heap.size w w'):WrB w' b base s:=by
 obtain⟨h0,v,h1,h2⟩:=h
 exact⟨h0,v,(hb.block _ (lt_of_block h1)).trans h1,Zi h2 hb⟩
theorem WrB.lt{w:World}{b base:Nat}{s:ByteArray}(h:WrB w b base s):b<w.heap.size:=by
 obtain⟨h0,v,h1,h2⟩:=h;exact lt_of_block h1
theorem Zz{w:World}{base e n k:Nat}{v:Value}{xs:List Value}{x:Obj}(h:w.ownsRow base 5 e v n xs)(hk:w.heap[k]?=some x)(hx:Qmh x):some k≠v.ownBlock:=by
 rcases h.2 with⟨rfl,_⟩ | ⟨g,cap,cur,rfl,_,hg,_⟩
 ·intro e;cases e
 ·intro e
  obtain rfl:k=g:=by simpa [Value.ownBlock] using e
  rw[hg]at hk
  cases hk
  exact hx _ _ rfl
theorem Qey{w w1:World}{b base n:Nat}{v v':Value}{xs ys:List Value}{s':ByteArray}(hb:base≤b)(h1:w.heap[b]?=some (.cells #[v] 265 (0,0)))(hown:w.ownsRow base 5 1 v n xs)(hE:Jg v.ownBlock w.drew w1)
  (hown':w1.ownsRow base 5 1 v' s'.size ys) (hy:ys=Lib.strCells s'):
  w1.cell? ⟨b,0,none⟩=some v∧w1.frozen? ⟨b,0,none⟩=false∧WrB (w1.setCell ⟨b,0,none⟩ v') b base s'∧WK base b w (w1.setCell ⟨b,0,none⟩ v'):=by
 have hn8:Qmh (.cells #[v] 265 (0,0)):=Xj (by decide);have hlt:=lt_of_block h1;have hb1:w1.heap[b]?=some (.cells #[v] 265 (0,0)):=by
  rw[hE.block b hlt (Zz hown h1 hn8)];exact h1
 have hne:=Zz hown' hb1 hn8
 refine⟨Qa hb1 0,Qj hb1 0,⟨hb,v',Qb hb1 v',?_⟩,⟨?_,λ k x hx hk hnx=>?_⟩⟩
 ·subst hy
  refine hown'.kept ⟨rfl,rfl,rfl,(by simp[World.setCell]),λ k _ hk=>Below.heap_setCell _ _ _ k (λ e=>hk (by rw[e]))⟩ (row:=some b) (.inr (λ e=>hne e.symm))
 ·refine Below.setCell (Below.grown ((Below.refl base w).drew) hE (by show base≤w.heap.size;omega) (λ k hk=>(hown.lt k hk).1)) hb v'
 ·rw[Below.heap_setCell _ _ _ _ hk,hE.block k (lt_of_block hx) (Zz hown hx hnx)];exact hx
theorem Qcm{w:World}{base e n:Nat}{v:Value}{xs:List Value}(h:w.ownsRow base e 1 v (n+1) xs):∃g cap,v=.slice (some ⟨g,0,none⟩) (n+1) cap:=by
 rcases h.2 with⟨_,h2⟩ | ⟨g,cap,cur,h3,_⟩
 ·omega
 ·exact⟨g,cap,h3⟩
theorem Ju(s t:ByteArray):Lib.strCells (s++t)=Lib.strCells s++Lib.strCells t:=by
 unfold Lib.strCells;rw[ByteArray.data_append,Array.toList_append,List.map_append]
theorem Qak{y:Int}(h0:0≤y)(h1:y≤255):Lib.strCells (baL [toB y])=[.int .u8 y]:=by
 unfold Lib.strCells;rw[Qhr,List.map_cons,List.map_nil,Qyj h0 h1]
theorem Qgx(s:ByteArray)(x:UInt8):(s++baL [x]).size=s.size+1:=by rw[ByteArray.size_append,Qbm];rfl
structure PRow.Ok(r:PRow)(n:Int):Prop where
 b0:0≤r.below
 b1:r.below≤18446744073709551615
 f0:0≤r.first
 f1:r.first≤255
 s0:0≤r.size
 s1:r.size≤8
 fit:r.size=0→(n<r.below ∨ r.below=0)→r.first+n≤255
def Qyk(r:PRow)(n:Int)(s:ByteArray)(b base:Nat)(w:World)(e:Ending)(w':World):Prop:=
 e=.returned (.bool (decide (n<r.below ∨ r.below=0)))∧WrB w' b base (if n<r.below ∨ r.below=0 then s++baL (Qj1 r n)else s)∧WK base b w w'
theorem Qsk(n:Int)(k i:Nat)(h:i<k):(hiL n k).take (k - i)=(hiL n k).take (k - (i+1))++[n / 256 ^ i % 256]:=by
 have hl:=Qdo n k;have key:∀k,i<k→(hiL n k)[k - (i+1)]?=some (n / 256 ^ i % 256):=by
  intro k
  induction k with
  | zero=>intro h;omega
  | succ k ih=>
   intro h
   rw[hiL]
   by_cases e:i=k
   ·subst e;simp
   ·have h2:=ih (by omega)
    rw[show k+1 - (i+1)=(k - (i+1))+1 by omega,List.getElem?_cons_succ];exact h2
 have h3:=key k h
 rw[show k - i=k - (i+1)+1 by omega,List.take_add_one,h3];rfl
theorem Qsl(r:PRow)(bn bw b base:Nat)(n:Int)(s:ByteArray)(w:World)(hn:w.heap[bn]?=some (.cells #[.int .u64 n] 23 (0,0)))(hw:w.heap[bw]?=some (.cells #[pt b 0] 166 (0,0)))
  (hW:WrB w b base s) (h0:0≤n) (h1:n≤18446744073709551615) (hr:r.Ok n) (hs:s.size≤70000000000000):
  Calls Tryz.prog 255 #[r.val,pt bn 0,pt bw 0] w (Qyk r n s b base w):=by
 have HR:=QLh hr;have HN:=QLh hn;have HW2:=QLh hw;have HWR:=QLh hW;have cn:=Qa hn 0;have cw:=Qa hw 0
 simp only[List.getElem?_toArray,List.getElem?_cons_zero]at cn cw
 have lbn:=lt_of_block hn;have lbw:=lt_of_block hw;clear hr hn hw hW
 unfold PRow.val
 by_cases hx:n<r.below ∨ r.below=0
 ·have HX:Hid (decide (n<r.below ∨ r.below=0)=true):=QLh (decide_eq_true hx)
  have hcase:decide (r.below≤n)=false ∨ (decide (r.below≤n)=true∧decide (0<r.below)=false):=by
   rcases hx with h | h
   ·exact .inl (decide_eq_false (by omega))
   ·exact .inr ⟨decide_eq_true (by omega),decide_eq_false (by omega)⟩
  have HCS:=QLh hcase;have hfit:=λ h=>HR.out.fit h hx;have HFIT:=QLh hfit;have HIF:Hid ((if n<r.below ∨ r.below=0 then s++baL (Qj1 r n)else s)=s++baL (Qj1 r n)):=QLh (if_pos hx);have f0:=HR.out.f0;have f1:=HR.out.f1;have s0:=HR.out.s0;have s1:=HR.out.s1;clear hx hfit hcase
  obtain⟨hbase,v,hv,hown⟩:=HWR.out
  have n8w:Qmh (.cells #[v] 265 (0,0)):=Xj (by decide);have n8n:Qmh (.cells #[.int .u64 n] 23 (0,0)):=Xj (by decide);have n8b:Qmh (.cells #[pt b 0] 166 (0,0)):=Xj (by decide);have n8r:Qmh (.cells #[.int .u64 r.below,.int .u8 r.first,.int .i64 r.size] 332 (0,0)):=Xj (by decide)
  obtain⟨i0,hi,hz0,hz1,hz2⟩:=info_parts Qsj
  have cb:=Qa hv 0
  simp only[List.getElem?_toArray,List.getElem?_cons_zero]at cb
  have HV:=QLh hv;have HOWN0:=QLh hown;have hltb:=HWR.out.lt;have HBS:Hid (base≤w.heap.size):=QLh (by omega);clear hv hown;have hcs:=HCS.out;clear HCS
  rcases hcs with g1 | ⟨g1,g2⟩
  ·skip
   go_enter Tryz.func255,Tryz.ntmps255
   by_cases hsz:r.size=0
   ·have e0:(r.size == 0)=true:=by simpa using hsz
    have HSZ:=QLh hsz;clear hsz
    go_upto_region 4 with fail
    obtain⟨br,hbr⟩:∃br,w.heap.size=br:=⟨_,rfl⟩
    obtain⟨V,hV⟩:∃V,w.alloc (.cells #[.int .u64 r.below,.int .u8 r.first,.int .i64 r.size] 332)=V:=⟨_,rfl⟩
    have VB:Hid (Below w.heap.size w V):=QLh (by rw[←hV];exact Qh (Below.refl _ _) _);have VR:Hid (V.heap[br]?=some (.cells #[.int .u64 r.below,.int .u8 r.first,.int .i64 r.size] 332 (0,0))):=QLh (by rw[←hV,←hbr];exact heap_alloc_new _ _);have VN:Hid (V.heap[bn]?=some (.cells #[.int .u64 n] 23 (0,0))):=QLh ((VB.out.block _ (lt_of_block HN.out)).trans HN.out);have VW:Hid (V.heap[bw]?=some (.cells #[pt b 0] 166 (0,0))):=QLh ((VB.out.block _ (lt_of_block HW2.out)).trans HW2.out);have VV:Hid (V.heap[b]?=some (.cells #[v] 265 (0,0))):=QLh ((VB.out.block _ hltb).trans HV.out);have HOWN:=QLh (Zi HOWN0.out VB.out);have HQ:Hid (∀g,v.ownBlock=some g→base≤g∧g<V.heap.size):=QLh (λ g hg=>HOWN.out.lt g hg);have n1:=Zz HOWN.out VN.out n8n;have n2:=Zz HOWN.out VW.out n8b;have n3:=Zz HOWN.out VR.out n8r;have n4:=Zz HOWN.out VV.out n8w;have c1:V.cell? ⟨bn,0,none⟩=some (.int .u64 n):=Qa VN.out 0;have c2:V.cell? ⟨bw,0,none⟩=some (pt b 0):=Qa VW.out 0;have c3:V.cell? ⟨br,1,none⟩=some (.int .u8 r.first):=Qa VR.out 1;have c4:V.cell? ⟨b,0,none⟩=some v:=Qa VV.out 0;have hbV:base≤V.heap.size:=Nat.le_trans hbase (Nat.le_of_lt (lt_of_block VV.out))
    obtain⟨y,hy⟩:∃y,r.first+n=y:=⟨_,rfl⟩
    have hy1:y≤255:=by rw[←hy];exact HFIT.out HSZ.out
    have y0:IntKind.u8.wrap n=n:=IntWalk.u8_in _ (by omega);have y1:IntKind.u8.wrap (r.first+n)=y:=by rw[hy];exact IntWalk.u8_in _ (by omega)
    have hy0:0≤y:=by omega
    have HY:=QLh hy
    rw[hbr]
    try rw[hV]
    clear hV hbr hy cn cw cb
    refine Qp 14 11 (v.ownBlock) (Qaw [λ u _=>u=(pt b 0),λ u _=>u=(pt b 0),λ u _=>u=(pt b 0),λ u _=>u=(pt b 0),λ u _=>u=(v),λ u _=>u=(pt br 1),λ u _=>u=(.int .u8 r.first),λ u _=>u=(.int .u64 n),λ u _=>u=(.int .u8 n),λ u _=>u=(.int .u8 y),λ u w'=>∃b,u=.slice (some ⟨b,0,none⟩) 1 1∧some b≠v.ownBlock∧w'.heap[b]?=some (.cells ([.int .u8 y]).toArray 5 (0,0)),λ u w'=>w'.ownsRow (base) 5 1 u (s.size+1) (Lib.strCells s++[.int .u8 y]),λ u _=>u=(pt b 0),λ u _=>u=(pt b 0)]) rfl (by kernel_rfl) (by kernel_rfl) (Zb ⟨Qe,Qe,Qe,Qe,Qe,Qe,Qe,Qe,Qe,Qe,?m10,?m11,Qe,Qe,trivial⟩) (Q6 14 ⟨?s0,?s1,?s2,?s3,?s4,?s5,?s6,?s7,?s8,?s9,?s10,?s11,?s12,?s13,trivial⟩) ?_
    case m10=>
     exact⟨λ u w1 w' h ⟨b,h1,hb,hb'⟩=>⟨b,h1,hb,Zt h hb'⟩,λ _ u w1 w' h ⟨b,h1,hb,hb'⟩=>⟨b,h1,hb,Qn h hb hb'⟩⟩
    case m11=>
     exact⟨λ u w1 w' h hu=>Zi hu h,λ hn=>absurd rfl hn⟩
    case s0=>
     refine Qc (v:=(pt b 0)) (λ av wv hE hS hO hD=>?_) (λ _=>rfl)
     have f2:=QEf av 2 (pt bw 0) (hO.2.2 2 rfl);have c1:=Qd hE n1 c1;have c2:=Qd hE n2 c2;have c3:=Qd hE n3 c3;have c4:=Qd hE n4 c4
     refine⟨rfl,?_⟩
     simp[go_sem,f2,c1,c2,c3,c4,y0,y1]
    case s1=>
     refine Qc (v:=(pt b 0)) (λ av wv hE hS hO hD=>?_) (λ _=>rfl)
     have f2:=QEf av 2 (pt bw 0) (hO.2.2 2 rfl);have c1:=Qd hE n1 c1;have c2:=Qd hE n2 c2;have c3:=Qd hE n3 c3;have c4:=Qd hE n4 c4
     refine⟨rfl,?_⟩
     simp[go_sem,f2,c1,c2,c3,c4,y0,y1]
    case s2=>
     refine Qc (v:=(pt b 0)) (λ av wv hE hS hO hD=>?_) (λ _=>rfl)
     have f19:=QEf av 19 (pt b 0) (hD.1 rfl _ rfl)
     refine⟨rfl,?_⟩
     simp[go_sem,f19,y0,y1]
    case s3=>
     refine Qc (v:=(pt b 0)) (λ av wv hE hS hO hD=>?_) (λ _=>rfl)
     have f20:=QEf av 20 (pt b 0) (hD.1 rfl _ rfl)
     refine⟨rfl,?_⟩
     simp[go_sem,f20,y0,y1]
    case s4=>
     refine Qc (v:=(v)) (λ av wv hE hS hO hD=>?_) (λ _=>rfl)
     have f21:=QEf av 21 (pt b 0) (hD.1 rfl _ rfl);have c1:=Qd hE n1 c1;have c2:=Qd hE n2 c2;have c3:=Qd hE n3 c3;have c4:=Qd hE n4 c4
     refine⟨rfl,?_⟩
     simp[go_sem,f21,c1,c2,c3,c4,y0,y1]
    case s5=>
     refine Qc (v:=(pt br 1)) (λ av wv hE hS hO hD=>?_) (λ _=>rfl)
     have f3:=QEf av 3 (pt br 0) (hO.2.2 3 rfl)
     refine⟨rfl,?_⟩
     simp[go_sem,f3,y0,y1]
    case s6=>
     refine Qc (v:=(.int .u8 r.first)) (λ av wv hE hS hO hD=>?_) (λ _=>rfl)
     have f23:=QEf av 23 (pt br 1) (hD.1 rfl _ rfl);have c1:=Qd hE n1 c1;have c2:=Qd hE n2 c2;have c3:=Qd hE n3 c3;have c4:=Qd hE n4 c4
     refine⟨rfl,?_⟩
     simp[go_sem,f23,c1,c2,c3,c4,y0,y1]
    case s7=>
     refine Qc (v:=(.int .u64 n)) (λ av wv hE hS hO hD=>?_) (λ _=>rfl)
     have f1:=QEf av 1 (pt bn 0) (hO.2.2 1 rfl);have c1:=Qd hE n1 c1;have c2:=Qd hE n2 c2;have c3:=Qd hE n3 c3;have c4:=Qd hE n4 c4
     refine⟨rfl,?_⟩
     simp[go_sem,f1,c1,c2,c3,c4,y0,y1]
    case s8=>
     refine Qc (v:=(.int .u8 n)) (λ av wv hE hS hO hD=>?_) (λ _=>rfl)
     have f25:=QEf av 25 (.int .u64 n) (hD.1 rfl _ rfl)
     refine⟨rfl,?_⟩
     simp[go_sem,f25,y0,y1]
    case s9=>
     refine Qc (v:=(.int .u8 y)) (λ av wv hE hS hO hD=>?_) (λ _=>rfl)
     have f24:=QEf av 24 (.int .u8 r.first) (hD.1 rfl _ rfl);have f26:=QEf av 26 (.int .u8 n) (hD.2.1 rfl _ rfl)
     refine⟨rfl,?_⟩
     simp[go_sem,f24,f26,y0,y1]
    case s10=>
     refine Qo (λ av wv hE hS hO hD=>?_)
     have f27:=QEf av 27 (.int .u8 y) (hD.1 rfl _ rfl)
     refine⟨rfl,?_⟩
     refine Zn (v:=.slice (some ⟨wv.heap.size,0,none⟩) 1 1) (w':=wv.alloc (.cells ([.int .u8 y]).toArray 5)) (by first | (simp[go_sem,f27,y0,y1];done) | (simp[go_sem,f27,y0,y1];rfl)) ⟨_,rfl,Qm (Qh (Zr _) _),wv.heap.size,rfl,?_,heap_alloc_new _ _⟩
     exact λ e=>absurd (HQ.out _ e.symm).2 (by have:=hE.size;simp at this;omega)
    case s11=>
     refine Qo (λ av wv hE hS hO hD=>?_)
     have d22:av.eval (.tmp 22)=(v):=hD.1 rfl _ rfl;have f22:=(Qq av 22).symm.trans d22;have d28:(λ u w'=>∃b,u=.slice (some ⟨b,0,none⟩) 1 1∧some b≠v.ownBlock∧w'.heap[b]?=some (.cells ([.int .u8 y]).toArray 5 (0,0))) (av.eval (.tmp 28)) wv:=hD.2.1 rfl _ rfl
     refine⟨rfl,?_⟩
     obtain⟨bS,hS1,hbS,hcS⟩:=d28
     have hown1:wv.ownsRow (base) 5 1 (v) (s.size) (Lib.strCells s):=Zi (w:=World.drew _) (HOWN.out) (hS rfl)
     refine wp_append_lies wv _ _ _ rfl (base) 5 i0 (.int .u8 0) 1 1 Tryz.underlying106 hi hz0 hz1 hz2 rfl (by decide) (v) (s.size) _ d22 hown1 ⟨bS,0,none⟩ 1 1 ([.int .u8 y]) (by exact hS1) rfl (World.news_of_block hcS) (Qj2 _) (by decide) (by unfold maxLen;omega) (by omega) (by have:=hE.size;simp at this;omega) _ rfl ?_
     intro g cap1 w2 hown2 hgrow hat hlt2
     exact⟨_,rfl,Qcf hgrow,hown2⟩
    case s12=>
     refine Qc (v:=(pt b 0)) (λ av wv hE hS hO hD=>?_) (λ _=>rfl)
     have f18:=QEf av 18 (pt b 0) (hD.1 rfl _ rfl)
     refine⟨rfl,?_⟩
     simp[go_sem,f18,y0,y1]
    case s13=>
     refine Qc (v:=(pt b 0)) (λ av wv hE hS hO hD=>?_) (λ _=>rfl)
     have f30:=QEf av 30 (pt b 0) (hD.1 rfl _ rfl)
     refine⟨rfl,?_⟩
     simp[go_sem,f30,y0,y1]
    intro a' w' hE hO hall
    have hA:=Ql (ds:=[18,19,20,21,22,23,24,25,26,27,28,29,30,31]) rfl hO (by kernel_rfl);have e18:a'.eval (.tmp 18)=(pt b 0):=hall.1 _ rfl;have e19:a'.eval (.tmp 19)=(pt b 0):=hall.2.1 _ rfl;have e20:a'.eval (.tmp 20)=(pt b 0):=hall.2.2.1 _ rfl;have e21:a'.eval (.tmp 21)=(pt b 0):=hall.2.2.2.1 _ rfl;have e22:a'.eval (.tmp 22)=(v):=hall.2.2.2.2.1 _ rfl;have e23:a'.eval (.tmp 23)=(pt br 1):=hall.2.2.2.2.2.1 _ rfl;have e24:a'.eval (.tmp 24)=(.int .u8 r.first):=hall.2.2.2.2.2.2.1 _ rfl;have e25:a'.eval (.tmp 25)=(.int .u64 n):=hall.2.2.2.2.2.2.2.1 _ rfl;have e26:a'.eval (.tmp 26)=(.int .u8 n):=hall.2.2.2.2.2.2.2.2.1 _ rfl;have e27:a'.eval (.tmp 27)=(.int .u8 y):=hall.2.2.2.2.2.2.2.2.2.1 _ rfl;have e28:(λ u w'=>∃b,u=.slice (some ⟨b,0,none⟩) 1 1∧some b≠v.ownBlock∧w'.heap[b]?=some (.cells ([.int .u8 y]).toArray 5 (0,0))) (a'.eval (.tmp 28)) w':=hall.2.2.2.2.2.2.2.2.2.2.1 _ rfl;have e29:(λ u w'=>w'.ownsRow (base) 5 1 u (s.size+1) (Lib.strCells s++[.int .u8 y])) (a'.eval (.tmp 29)) w':=hall.2.2.2.2.2.2.2.2.2.2.2.1 _ rfl;have e30:a'.eval (.tmp 30)=(pt b 0):=hall.2.2.2.2.2.2.2.2.2.2.2.2.1 _ rfl;have e31:a'.eval (.tmp 31)=(pt b 0):=hall.2.2.2.2.2.2.2.2.2.2.2.2.2.1 _ rfl
    obtain⟨v28,hv28⟩:∃v,a'.eval (.tmp 28)=v:=⟨_,rfl⟩
    rw[hv28]at e28
    obtain⟨v29,hv29⟩:∃v,a'.eval (.tmp 29)=v:=⟨_,rfl⟩
    rw[hv29]at e29
    simp only[List.foldl_cons,List.foldl_nil,Act.put,List.setIfInBounds_toArray,List.set_cons_succ,List.set_cons_zero,e18,e19,e20,e21,e22,e23,e24,e25,e26,e27,hv28,hv29,e30,e31]at hA
    clear hO hall e18 e19 e20 e21 e22 e23 e24 e25 e26 e27 hv28 hv29 e30 e31
    subst hA
    obtain⟨ga,gc,rfl⟩:=Qcm e29
    have hst:=Qey (s':=s++baL [toB y]) hbase VV.out HOWN.out hE (by rw[Qgx];exact e29) (by rw[Ju,Qak hy0 hy1]);have HST:=QLh hst;have hc4:=hst.1;have hf4:=hst.2.1;clear hst hE e29
    go_wp2
    go_ret
    refine⟨Z7 HX.out.symm,?_,(WK.of_below VB.out HBS.out).trans HST.out.2.2.2⟩
    rw[HIF.out]
    have e4:Qj1 r n=[toB y]:=by unfold Qj1;rw[if_pos HSZ.out,HY.out]
    rw[e4];exact HST.out.2.2.1
   ·have e0:(r.size == 0)=false:=by simpa using hsz
    have HSZ:=QLh hsz;clear hsz
    go_upto_region 6 with fail
    obtain⟨br,hbr⟩:∃br,w.heap.size=br:=⟨_,rfl⟩
    obtain⟨V,hV⟩:∃V,w.alloc (.cells #[.int .u64 r.below,.int .u8 r.first,.int .i64 r.size] 332)=V:=⟨_,rfl⟩
    have VB:Hid (Below w.heap.size w V):=QLh (by rw[←hV];exact Qh (Below.refl _ _) _);have VR:Hid (V.heap[br]?=some (.cells #[.int .u64 r.below,.int .u8 r.first,.int .i64 r.size] 332 (0,0))):=QLh (by rw[←hV,←hbr];exact heap_alloc_new _ _);have VN:Hid (V.heap[bn]?=some (.cells #[.int .u64 n] 23 (0,0))):=QLh ((VB.out.block _ (lt_of_block HN.out)).trans HN.out);have VW:Hid (V.heap[bw]?=some (.cells #[pt b 0] 166 (0,0))):=QLh ((VB.out.block _ (lt_of_block HW2.out)).trans HW2.out);have VV:Hid (V.heap[b]?=some (.cells #[v] 265 (0,0))):=QLh ((VB.out.block _ hltb).trans HV.out);have HOWN:=QLh (Zi HOWN0.out VB.out);have HQ:Hid (∀g,v.ownBlock=some g→base≤g∧g<V.heap.size):=QLh (λ g hg=>HOWN.out.lt g hg);have n1:=Zz HOWN.out VN.out n8n;have n2:=Zz HOWN.out VW.out n8b;have n3:=Zz HOWN.out VR.out n8r;have n4:=Zz HOWN.out VV.out n8w;have c1:V.cell? ⟨bn,0,none⟩=some (.int .u64 n):=Qa VN.out 0;have c2:V.cell? ⟨bw,0,none⟩=some (pt b 0):=Qa VW.out 0;have c3:V.cell? ⟨br,1,none⟩=some (.int .u8 r.first):=Qa VR.out 1;have c4:V.cell? ⟨b,0,none⟩=some v:=Qa VV.out 0;have hbV:base≤V.heap.size:=Nat.le_trans hbase (Nat.le_of_lt (lt_of_block VV.out))
    rw[hbr]
    try rw[hV]
    clear hV hbr cn cw cb
    refine Qp 11 8 (v.ownBlock) (Qaw [λ u _=>u=(pt b 0),λ u _=>u=(pt b 0),λ u _=>u=(pt b 0),λ u _=>u=(pt b 0),λ u _=>u=(v),λ u _=>u=(pt br 1),λ u _=>u=(.int .u8 r.first),λ u w'=>∃b,u=.slice (some ⟨b,0,none⟩) 1 1∧some b≠v.ownBlock∧w'.heap[b]?=some (.cells ([.int .u8 r.first]).toArray 5 (0,0)),λ u w'=>w'.ownsRow (base) 5 1 u (s.size+1) (Lib.strCells s++[.int .u8 r.first]),λ u _=>u=(pt b 0),λ u _=>u=(pt b 0)]) rfl (by kernel_rfl) (by kernel_rfl) (Zb ⟨Qe,Qe,Qe,Qe,Qe,Qe,Qe,?m7,?m8,Qe,Qe,trivial⟩) (Q6 11 ⟨?s0,?s1,?s2,?s3,?s4,?s5,?s6,?s7,?s8,?s9,?s10,trivial⟩) ?_
    case m7=>
     exact⟨λ u w1 w' h ⟨b,h1,hb,hb'⟩=>⟨b,h1,hb,Zt h hb'⟩,λ _ u w1 w' h ⟨b,h1,hb,hb'⟩=>⟨b,h1,hb,Qn h hb hb'⟩⟩
    case m8=>
     exact⟨λ u w1 w' h hu=>Zi hu h,λ hn=>absurd rfl hn⟩
    case s0=>
     refine Qc (v:=(pt b 0)) (λ av wv hE hS hO hD=>?_) (λ _=>rfl)
     have f2:=QEf av 2 (pt bw 0) (hO.2.2 2 rfl);have c1:=Qd hE n1 c1;have c2:=Qd hE n2 c2;have c3:=Qd hE n3 c3;have c4:=Qd hE n4 c4
     refine⟨rfl,?_⟩
     simp[go_sem,f2,c1,c2,c3,c4]
    case s1=>
     refine Qc (v:=(pt b 0)) (λ av wv hE hS hO hD=>?_) (λ _=>rfl)
     have f2:=QEf av 2 (pt bw 0) (hO.2.2 2 rfl);have c1:=Qd hE n1 c1;have c2:=Qd hE n2 c2;have c3:=Qd hE n3 c3;have c4:=Qd hE n4 c4
     refine⟨rfl,?_⟩
     simp[go_sem,f2,c1,c2,c3,c4]
    case s2=>
     refine Qc (v:=(pt b 0)) (λ av wv hE hS hO hD=>?_) (λ _=>rfl)
     have f33:=QEf av 33 (pt b 0) (hD.1 rfl _ rfl)
     refine⟨rfl,?_⟩
     simp[go_sem,f33]
    case s3=>
     refine Qc (v:=(pt b 0)) (λ av wv hE hS hO hD=>?_) (λ _=>rfl)
     have f34:=QEf av 34 (pt b 0) (hD.1 rfl _ rfl)
     refine⟨rfl,?_⟩
     simp[go_sem,f34]
    case s4=>
     refine Qc (v:=(v)) (λ av wv hE hS hO hD=>?_) (λ _=>rfl)
     have f35:=QEf av 35 (pt b 0) (hD.1 rfl _ rfl);have c1:=Qd hE n1 c1;have c2:=Qd hE n2 c2;have c3:=Qd hE n3 c3;have c4:=Qd hE n4 c4
     refine⟨rfl,?_⟩
     simp[go_sem,f35,c1,c2,c3,c4]
    case s5=>
     refine Qc (v:=(pt br 1)) (λ av wv hE hS hO hD=>?_) (λ _=>rfl)
     have f3:=QEf av 3 (pt br 0) (hO.2.2 3 rfl)
     refine⟨rfl,?_⟩
     simp[go_sem,f3]
    case s6=>
     refine Qc (v:=(.int .u8 r.first)) (λ av wv hE hS hO hD=>?_) (λ _=>rfl)
     have f37:=QEf av 37 (pt br 1) (hD.1 rfl _ rfl);have c1:=Qd hE n1 c1;have c2:=Qd hE n2 c2;have c3:=Qd hE n3 c3;have c4:=Qd hE n4 c4
     refine⟨rfl,?_⟩
     simp[go_sem,f37,c1,c2,c3,c4]
    case s7=>
     refine Qo (λ av wv hE hS hO hD=>?_)
     have f38:=QEf av 38 (.int .u8 r.first) (hD.1 rfl _ rfl)
     refine⟨rfl,?_⟩
     refine Zn (v:=.slice (some ⟨wv.heap.size,0,none⟩) 1 1) (w':=wv.alloc (.cells ([.int .u8 r.first]).toArray 5)) (by first | (simp[go_sem,f38];done) | (simp[go_sem,f38];rfl)) ⟨_,rfl,Qm (Qh (Zr _) _),wv.heap.size,rfl,?_,heap_alloc_new _ _⟩
     exact λ e=>absurd (HQ.out _ e.symm).2 (by have:=hE.size;simp at this;omega)
    case s8=>
     refine Qo (λ av wv hE hS hO hD=>?_)
     have d36:av.eval (.tmp 36)=(v):=hD.1 rfl _ rfl;have f36:=(Qq av 36).symm.trans d36;have d39:(λ u w'=>∃b,u=.slice (some ⟨b,0,none⟩) 1 1∧some b≠v.ownBlock∧w'.heap[b]?=some (.cells ([.int .u8 r.first]).toArray 5 (0,0))) (av.eval (.tmp 39)) wv:=hD.2.1 rfl _ rfl
     refine⟨rfl,?_⟩
     obtain⟨bS,hS1,hbS,hcS⟩:=d39
     have hown1:wv.ownsRow (base) 5 1 (v) (s.size) (Lib.strCells s):=Zi (w:=World.drew _) (HOWN.out) (hS rfl)
     refine wp_append_lies wv _ _ _ rfl (base) 5 i0 (.int .u8 0) 1 1 Tryz.underlying106 hi hz0 hz1 hz2 rfl (by decide) (v) (s.size) _ d36 hown1 ⟨bS,0,none⟩ 1 1 ([.int .u8 r.first]) (by exact hS1) rfl (World.news_of_block hcS) (Qj2 _) (by decide) (by unfold maxLen;omega) (by omega) (by have:=hE.size;simp at this;omega) _ rfl ?_
     intro g cap1 w2 hown2 hgrow hat hlt2
     exact⟨_,rfl,Qcf hgrow,hown2⟩
    case s9=>
     refine Qc (v:=(pt b 0)) (λ av wv hE hS hO hD=>?_) (λ _=>rfl)
     have f32:=QEf av 32 (pt b 0) (hD.1 rfl _ rfl)
     refine⟨rfl,?_⟩
     simp[go_sem,f32]
    case s10=>
     refine Qc (v:=(pt b 0)) (λ av wv hE hS hO hD=>?_) (λ _=>rfl)
     have f41:=QEf av 41 (pt b 0) (hD.1 rfl _ rfl)
     refine⟨rfl,?_⟩
     simp[go_sem,f41]
    intro a' w' hE hO hall
    have hA:=Ql (ds:=[32,33,34,35,36,37,38,39,40,41,42]) rfl hO (by kernel_rfl);have e32:a'.eval (.tmp 32)=(pt b 0):=hall.1 _ rfl;have e33:a'.eval (.tmp 33)=(pt b 0):=hall.2.1 _ rfl;have e34:a'.eval (.tmp 34)=(pt b 0):=hall.2.2.1 _ rfl;have e35:a'.eval (.tmp 35)=(pt b 0):=hall.2.2.2.1 _ rfl;have e36:a'.eval (.tmp 36)=(v):=hall.2.2.2.2.1 _ rfl;have e37:a'.eval (.tmp 37)=(pt br 1):=hall.2.2.2.2.2.1 _ rfl;have e38:a'.eval (.tmp 38)=(.int .u8 r.first):=hall.2.2.2.2.2.2.1 _ rfl;have e39:(λ u w'=>∃b,u=.slice (some ⟨b,0,none⟩) 1 1∧some b≠v.ownBlock∧w'.heap[b]?=some (.cells ([.int .u8 r.first]).toArray 5 (0,0))) (a'.eval (.tmp 39)) w':=hall.2.2.2.2.2.2.2.1 _ rfl;have e40:(λ u w'=>w'.ownsRow (base) 5 1 u (s.size+1) (Lib.strCells s++[.int .u8 r.first])) (a'.eval (.tmp 40)) w':=hall.2.2.2.2.2.2.2.2.1 _ rfl;have e41:a'.eval (.tmp 41)=(pt b 0):=hall.2.2.2.2.2.2.2.2.2.1 _ rfl;have e42:a'.eval (.tmp 42)=(pt b 0):=hall.2.2.2.2.2.2.2.2.2.2.1 _ rfl
    obtain⟨v39,hv39⟩:∃v,a'.eval (.tmp 39)=v:=⟨_,rfl⟩
    rw[hv39]at e39
    obtain⟨v40,hv40⟩:∃v,a'.eval (.tmp 40)=v:=⟨_,rfl⟩
    rw[hv40]at e40
    simp only[List.foldl_cons,List.foldl_nil,Act.put,List.setIfInBounds_toArray,List.set_cons_succ,List.set_cons_zero,e32,e33,e34,e35,e36,e37,e38,hv39,hv40,e41,e42]at hA
    clear hO hall e32 e33 e34 e35 e36 e37 e38 hv39 hv40 e41 e42
    subst hA
    obtain⟨ga,gc,rfl⟩:=Qcm e40
    have hst:=Qey (s':=s++baL [toB r.first]) hbase VV.out HOWN.out hE (by rw[Qgx];exact e40) (by rw[Ju,Qak f0 f1]);have HST:=QLh hst;have hc4:=hst.1;have hf4:=hst.2.1;have HBR:Hid (w'.cell? ⟨br,2,none⟩=some (.int .i64 r.size)):=QLh (Qd hE n3 (Qa VR.out 2));clear hst hE e40 c1 c2 c3 c4;have hne:br≠b:=λ e=>by have h1:=VR.out;rw[e,VV.out]at h1;cases h1
    have c5:(w'.setCell ⟨b,0,none⟩ (.slice (some ⟨ga,0,none⟩) (s.size+1) gc)).cell? ⟨br,2,none⟩=some (.int .i64 r.size):=by
     have h:=(HST.out.2.2.2).keep br _ VR.out hne n8r
     exact Qa h 2
    obtain⟨k,hk⟩:=Int.eq_ofNat_of_zero_le s0
    have HKK:=QLh hk;have k8:k≤8:=by omega
    rw[hk]at c5
    have hw1:IntKind.i64.wrap ((k:Int) - 1)=(k:Int) - 1:=IntWalk.i64_in _ (by omega);clear hk HBR
    go_wp2
    obtain⟨V2,hV2⟩:∃V2,w'.setCell ⟨b,0,none⟩ (.slice (some ⟨ga,0,none⟩) (s.size+1) gc)=V2:=⟨_,rfl⟩
    have HWR2:Hid (WrB V2 b base (s++baL (toB r.first :: ((hiL n k).take (k - k)).map toB))):=QLh (by rw[←hV2,Nat.sub_self];exact HST.out.2.2.1);have HWK2:Hid (WK base b V V2):=QLh (by rw[←hV2];exact HST.out.2.2.2)
    try rw[hV2]
    clear hV2 HST hc4 hf4 c5 hw1 HWR;have nbn:bn≠b:=λ e=>by have h1:=VN.out;rw[e,VV.out]at h1;cases h1
    have nbw:bw≠b:=λ e=>by have h1:=VW.out;rw[e,VV.out]at h1;cases h1
    have hbVS:base≤V.heap.size:=hbV;clear n1 n2 n3 n4 hbV hltb HQ
    go_loopg [5] k (λ g i wr=>g≤k∧i=.int .i64 ((g:Int) - 1)∧Hid (WrB wr b base (s++baL (toB r.first :: ((hiL n k).take (k - g)).map toB)))∧Hid (WK base b V wr))
    case atStart=>exact⟨Nat.le_refl _,rfl,HWR2.out,HWK2.out⟩
    case round=>
     clear HWR2 HWK2
     obtain⟨hgk,rfl,HWR,HWK⟩:=hrel
     obtain⟨G,hG⟩:∃G,G=gk:=⟨_,rfl⟩
     subst hG
     cases G with
     | zero=>
      have e2:((0:Nat):Int) - 1=-1:=rfl
      rw[e2]
      clear e2
      go_wp2
      go_ret
      refine⟨Z7 HX.out.symm,?_,(WK.of_below VB.out HBS.out).trans HWK.out⟩
      rw[HIF.out]
      have e4:Qj1 r n=toB r.first :: ((hiL n k).take (k - 0)).map toB:=by
       unfold Qj1
       rw[if_neg HSZ.out,HKK.out,Nat.sub_zero,List.take_of_length_le (by rw[Qdo];exact Nat.le_refl _)];rfl
      rw[e4];exact HWR.out
     | succ i=>
      have e2:((i+1:Nat):Int) - 1=(i:Int):=by omega
      rw[e2]
      obtain⟨t,ht⟩:∃t,s++baL (toB r.first :: ((hiL n k).take (k - (i+1))).map toB)=t:=⟨_,rfl⟩
      have hts:t.size≤70000000000009:=by
       rw[←ht,ByteArray.size_append,Qbm,List.length_cons,List.length_map,List.length_take,Qdo];omega
      obtain⟨x,hx⟩:∃x,n / 2 ^ (8 * i) % 256=x:=⟨_,rfl⟩
      have hx0:0≤x∧x≤255:=by rw[←hx];omega
      have HT:Hid (s++baL (toB r.first :: ((hiL n k).take (k - i)).map toB)=t++baL [toB x]):=QLh (by
       rw[←ht,Qsk n k i (by omega),show(256:Int) ^ i=2 ^ (8 * i)by rw[Int.pow_mul];rfl,hx,List.map_append,←List.cons_append,Qn7,ByteArray.append_assoc];rfl)
      rw[ht]at HWR
      have y0:IntKind.u8.wrap (n / 2 ^ (8 * i))=x:=by rw[IntKind.wrap_u8];exact hx
      have y1:IntKind.i64.wrap (8 * (i:Int))=8 * (i:Int):=IntWalk.i64_in _ (by omega);have y2:0≤8 * (i:Int):=by omega
      have y3:(8 * (i:Int)).toNat=8 * i:=by omega
      clear ht e2 hx
      obtain⟨-,v,hv,hown⟩:=HWR.out
      have VV2:=QLh hv;have HOWN:=QLh hown;have VN2:=QLh (HWK.out.keep _ _ VN.out nbn n8n);have VW2:=QLh (HWK.out.keep _ _ VW.out nbw n8b);have n8w:Qmh (.cells #[v] 265 (0,0)):=Xj (by decide);have HQ:Hid (∀g,v.ownBlock=some g→base≤g∧g<wr.heap.size):=QLh (λ g hg=>HOWN.out.lt g hg);have n1:=Zz HOWN.out VN2.out n8n;have n2:=Zz HOWN.out VW2.out n8b;have n4:=Zz HOWN.out VV2.out n8w;have c1:wr.cell? ⟨bn,0,none⟩=some (.int .u64 n):=Qa VN2.out 0;have c2:wr.cell? ⟨bw,0,none⟩=some (pt b 0):=Qa VW2.out 0;have c4:wr.cell? ⟨b,0,none⟩=some v:=Qa VV2.out 0;have hbV:base≤wr.heap.size:=Nat.le_trans hbase (Nat.le_of_lt (lt_of_block VV2.out));clear hv hown
      go_upto_region 10 with fail
      refine Qp 14 11 (v.ownBlock) (Qaw [λ u _=>u=(pt b 0),λ u _=>u=(pt b 0),λ u _=>u=(pt b 0),λ u _=>u=(pt b 0),λ u _=>u=(v),λ u _=>u=(.int .u64 n),λ u _=>u=(.int .i64 i),λ u _=>u=(.int .i64 (8 * (i:Int))),λ u _=>u=(.int .u64 (n / 2 ^ (8 * i))),λ u _=>u=(.int .u8 x),λ u w'=>∃b,u=.slice (some ⟨b,0,none⟩) 1 1∧some b≠v.ownBlock∧w'.heap[b]?=some (.cells ([.int .u8 x]).toArray 5 (0,0)),λ u w'=>w'.ownsRow (base) 5 1 u (t.size+1) (Lib.strCells t++[.int .u8 x]),λ u _=>u=(pt b 0),λ u _=>u=(pt b 0)]) rfl (by kernel_rfl) (by kernel_rfl) (Zb ⟨Qe,Qe,Qe,Qe,Qe,Qe,Qe,Qe,Qe,Qe,?m10,?m11,Qe,Qe,trivial⟩) (Q6 14 ⟨?s0,?s1,?s2,?s3,?s4,?s5,?s6,?s7,?s8,?s9,?s10,?s11,?s12,?s13,trivial⟩) ?_
      case m10=>
       exact⟨λ u w1 w' h ⟨b,h1,hb,hb'⟩=>⟨b,h1,hb,Zt h hb'⟩,λ _ u w1 w' h ⟨b,h1,hb,hb'⟩=>⟨b,h1,hb,Qn h hb hb'⟩⟩
      case m11=>
       exact⟨λ u w1 w' h hu=>Zi hu h,λ hn=>absurd rfl hn⟩
      case s0=>
       refine Qc (v:=(pt b 0)) (λ av wv hE hS hO hD=>?_) (λ _=>rfl)
       have f2:=QEf av 2 (pt bw 0) (hO.2.2 2 rfl);have c1:=Qd hE n1 c1;have c2:=Qd hE n2 c2;have c4:=Qd hE n4 c4
       refine⟨rfl,?_⟩
       simp[go_sem,f2,c1,c2,c4,y0,y1,y2,y3]
      case s1=>
       refine Qc (v:=(pt b 0)) (λ av wv hE hS hO hD=>?_) (λ _=>rfl)
       have f2:=QEf av 2 (pt bw 0) (hO.2.2 2 rfl);have c1:=Qd hE n1 c1;have c2:=Qd hE n2 c2;have c4:=Qd hE n4 c4
       refine⟨rfl,?_⟩
       simp[go_sem,f2,c1,c2,c4,y0,y1,y2,y3]
      case s2=>
       refine Qc (v:=(pt b 0)) (λ av wv hE hS hO hD=>?_) (λ _=>rfl)
       have f51:=QEf av 51 (pt b 0) (hD.1 rfl _ rfl)
       refine⟨rfl,?_⟩
       simp[go_sem,f51,y0,y1,y2,y3]
      case s3=>
       refine Qc (v:=(pt b 0)) (λ av wv hE hS hO hD=>?_) (λ _=>rfl)
       have f52:=QEf av 52 (pt b 0) (hD.1 rfl _ rfl)
       refine⟨rfl,?_⟩
       simp[go_sem,f52,y0,y1,y2,y3]
      case s4=>
       refine Qc (v:=(v)) (λ av wv hE hS hO hD=>?_) (λ _=>rfl)
       have f53:=QEf av 53 (pt b 0) (hD.1 rfl _ rfl);have c1:=Qd hE n1 c1;have c2:=Qd hE n2 c2;have c4:=Qd hE n4 c4
       refine⟨rfl,?_⟩
       simp[go_sem,f53,c1,c2,c4,y0,y1,y2,y3]
      case s5=>
       refine Qc (v:=(.int .u64 n)) (λ av wv hE hS hO hD=>?_) (λ _=>rfl)
       have f1:=QEf av 1 (pt bn 0) (hO.2.2 1 rfl);have c1:=Qd hE n1 c1;have c2:=Qd hE n2 c2;have c4:=Qd hE n4 c4
       refine⟨rfl,?_⟩
       simp[go_sem,f1,c1,c2,c4,y0,y1,y2,y3]
      case s6=>
       refine Qc (v:=(.int .i64 i)) (λ av wv hE hS hO hD=>?_) (λ _=>rfl)
       have f5:=QEf av 5 (.int .i64 i) (hO.2.2 5 rfl)
       refine⟨rfl,?_⟩
       simp[go_sem,f5,y0,y1,y2,y3]
      case s7=>
       refine Qc (v:=(.int .i64 (8 * (i:Int)))) (λ av wv hE hS hO hD=>?_) (λ _=>rfl)
       have f56:=QEf av 56 (.int .i64 i) (hD.1 rfl _ rfl)
       refine⟨rfl,?_⟩
       simp[go_sem,f56,y0,y1,y2,y3]
      case s8=>
       refine Qc (v:=(.int .u64 (n / 2 ^ (8 * i)))) (λ av wv hE hS hO hD=>?_) (λ _=>rfl)
       have f55:=QEf av 55 (.int .u64 n) (hD.1 rfl _ rfl);have f57:=QEf av 57 (.int .i64 (8 * (i:Int))) (hD.2.1 rfl _ rfl)
       refine⟨rfl,?_⟩
       simp[go_sem,f55,f57,y0,y1,y2,y3]
      case s9=>
       refine Qc (v:=(.int .u8 x)) (λ av wv hE hS hO hD=>?_) (λ _=>rfl)
       have f58:=QEf av 58 (.int .u64 (n / 2 ^ (8 * i))) (hD.1 rfl _ rfl)
       refine⟨rfl,?_⟩
       simp[go_sem,f58,y0,y1,y2,y3]
      case s10=>
       refine Qo (λ av wv hE hS hO hD=>?_)
       have f59:=QEf av 59 (.int .u8 x) (hD.1 rfl _ rfl)
       refine⟨rfl,?_⟩
       refine Zn (v:=.slice (some ⟨wv.heap.size,0,none⟩) 1 1) (w':=wv.alloc (.cells ([.int .u8 x]).toArray 5)) (by first | (simp[go_sem,f59,y0,y1,y2,y3];done) | (simp[go_sem,f59,y0,y1,y2,y3];rfl)) ⟨_,rfl,Qm (Qh (Zr _) _),wv.heap.size,rfl,?_,heap_alloc_new _ _⟩
       exact λ e=>absurd (HQ.out _ e.symm).2 (by have:=hE.size;simp at this;omega)
      case s11=>
       refine Qo (λ av wv hE hS hO hD=>?_)
       have d54:av.eval (.tmp 54)=(v):=hD.1 rfl _ rfl;have f54:=(Qq av 54).symm.trans d54;have d60:(λ u w'=>∃b,u=.slice (some ⟨b,0,none⟩) 1 1∧some b≠v.ownBlock∧w'.heap[b]?=some (.cells ([.int .u8 x]).toArray 5 (0,0))) (av.eval (.tmp 60)) wv:=hD.2.1 rfl _ rfl
       refine⟨rfl,?_⟩
       obtain⟨bS,hS1,hbS,hcS⟩:=d60
       have hown1:wv.ownsRow (base) 5 1 (v) (t.size) (Lib.strCells t):=Zi (w:=World.drew _) (HOWN.out) (hS rfl)
       refine wp_append_lies wv _ _ _ rfl (base) 5 i0 (.int .u8 0) 1 1 Tryz.underlying106 hi hz0 hz1 hz2 rfl (by decide) (v) (t.size) _ d54 hown1 ⟨bS,0,none⟩ 1 1 ([.int .u8 x]) (by exact hS1) rfl (World.news_of_block hcS) (Qj2 _) (by decide) (by unfold maxLen;omega) (by omega) (by have:=hE.size;simp at this;omega) _ rfl ?_
       intro g cap1 w2 hown2 hgrow hat hlt2
       exact⟨_,rfl,Qcf hgrow,hown2⟩
      case s12=>
       refine Qc (v:=(pt b 0)) (λ av wv hE hS hO hD=>?_) (λ _=>rfl)
       have f50:=QEf av 50 (pt b 0) (hD.1 rfl _ rfl)
       refine⟨rfl,?_⟩
       simp[go_sem,f50,y0,y1,y2,y3]
      case s13=>
       refine Qc (v:=(pt b 0)) (λ av wv hE hS hO hD=>?_) (λ _=>rfl)
       have f62:=QEf av 62 (pt b 0) (hD.1 rfl _ rfl)
       refine⟨rfl,?_⟩
       simp[go_sem,f62,y0,y1,y2,y3]
      intro a' w' hE hO hall
      have hA:=Ql (ds:=[50,51,52,53,54,55,56,57,58,59,60,61,62,63]) rfl hO (by kernel_rfl);have e50:a'.eval (.tmp 50)=(pt b 0):=hall.1 _ rfl;have e51:a'.eval (.tmp 51)=(pt b 0):=hall.2.1 _ rfl;have e52:a'.eval (.tmp 52)=(pt b 0):=hall.2.2.1 _ rfl;have e53:a'.eval (.tmp 53)=(pt b 0):=hall.2.2.2.1 _ rfl;have e54:a'.eval (.tmp 54)=(v):=hall.2.2.2.2.1 _ rfl;have e55:a'.eval (.tmp 55)=(.int .u64 n):=hall.2.2.2.2.2.1 _ rfl;have e56:a'.eval (.tmp 56)=(.int .i64 i):=hall.2.2.2.2.2.2.1 _ rfl;have e57:a'.eval (.tmp 57)=(.int .i64 (8 * (i:Int))):=hall.2.2.2.2.2.2.2.1 _ rfl;have e58:a'.eval (.tmp 58)=(.int .u64 (n / 2 ^ (8 * i))):=hall.2.2.2.2.2.2.2.2.1 _ rfl;have e59:a'.eval (.tmp 59)=(.int .u8 x):=hall.2.2.2.2.2.2.2.2.2.1 _ rfl;have e60:(λ u w'=>∃b,u=.slice (some ⟨b,0,none⟩) 1 1∧some b≠v.ownBlock∧w'.heap[b]?=some (.cells ([.int .u8 x]).toArray 5 (0,0))) (a'.eval (.tmp 60)) w':=hall.2.2.2.2.2.2.2.2.2.2.1 _ rfl;have e61:(λ u w'=>w'.ownsRow (base) 5 1 u (t.size+1) (Lib.strCells t++[.int .u8 x])) (a'.eval (.tmp 61)) w':=hall.2.2.2.2.2.2.2.2.2.2.2.1 _ rfl;have e62:a'.eval (.tmp 62)=(pt b 0):=hall.2.2.2.2.2.2.2.2.2.2.2.2.1 _ rfl;have e63:a'.eval (.tmp 63)=(pt b 0):=hall.2.2.2.2.2.2.2.2.2.2.2.2.2.1 _ rfl
      obtain⟨v60,hv60⟩:∃v,a'.eval (.tmp 60)=v:=⟨_,rfl⟩
      rw[hv60]at e60
      obtain⟨v61,hv61⟩:∃v,a'.eval (.tmp 61)=v:=⟨_,rfl⟩
      rw[hv61]at e61
      simp only[List.foldl_cons,List.foldl_nil,Act.put,List.setIfInBounds_toArray,List.set_cons_succ,List.set_cons_zero,e50,e51,e52,e53,e54,e55,e56,e57,e58,e59,hv60,hv61,e62,e63]at hA
      clear hO hall e50 e51 e52 e53 e54 e55 e56 e57 e58 e59 hv60 hv61 e62 e63
      subst hA
      obtain⟨ga,gc,rfl⟩:=Qcm e61
      have hst:=Qey (s':=t++baL [toB x]) hbase VV2.out HOWN.out hE (by rw[Qgx];exact e61) (by rw[Ju,Qak hx0.1 hx0.2]);have HST:=QLh hst;have hc4:=hst.1;have hf4:=hst.2.1;clear hst hE e61 c1 c2 c4 n1 n2 n4
      go_wp2
      go_roundg i
      case rel=>exact⟨by omega,by go_num,by rw[HT.out];exact HST.out.2.2.1,HWK.out.trans HST.out.2.2.2⟩
      case measure=>omega
  ·skip
   go_enter Tryz.func255,Tryz.ntmps255
   by_cases hsz:r.size=0
   ·have e0:(r.size == 0)=true:=by simpa using hsz
    have HSZ:=QLh hsz;clear hsz
    go_upto_region 4 with fail
    obtain⟨br,hbr⟩:∃br,w.heap.size=br:=⟨_,rfl⟩
    obtain⟨V,hV⟩:∃V,w.alloc (.cells #[.int .u64 r.below,.int .u8 r.first,.int .i64 r.size] 332)=V:=⟨_,rfl⟩
    have VB:Hid (Below w.heap.size w V):=QLh (by rw[←hV];exact Qh (Below.refl _ _) _);have VR:Hid (V.heap[br]?=some (.cells #[.int .u64 r.below,.int .u8 r.first,.int .i64 r.size] 332 (0,0))):=QLh (by rw[←hV,←hbr];exact heap_alloc_new _ _);have VN:Hid (V.heap[bn]?=some (.cells #[.int .u64 n] 23 (0,0))):=QLh ((VB.out.block _ (lt_of_block HN.out)).trans HN.out);have VW:Hid (V.heap[bw]?=some (.cells #[pt b 0] 166 (0,0))):=QLh ((VB.out.block _ (lt_of_block HW2.out)).trans HW2.out);have VV:Hid (V.heap[b]?=some (.cells #[v] 265 (0,0))):=QLh ((VB.out.block _ hltb).trans HV.out);have HOWN:=QLh (Zi HOWN0.out VB.out);have HQ:Hid (∀g,v.ownBlock=some g→base≤g∧g<V.heap.size):=QLh (λ g hg=>HOWN.out.lt g hg);have n1:=Zz HOWN.out VN.out n8n;have n2:=Zz HOWN.out VW.out n8b;have n3:=Zz HOWN.out VR.out n8r;have n4:=Zz HOWN.out VV.out n8w;have c1:V.cell? ⟨bn,0,none⟩=some (.int .u64 n):=Qa VN.out 0;have c2:V.cell? ⟨bw,0,none⟩=some (pt b 0):=Qa VW.out 0;have c3:V.cell? ⟨br,1,none⟩=some (.int .u8 r.first):=Qa VR.out 1;have c4:V.cell? ⟨b,0,none⟩=some v:=Qa VV.out 0;have hbV:base≤V.heap.size:=Nat.le_trans hbase (Nat.le_of_lt (lt_of_block VV.out))
    obtain⟨y,hy⟩:∃y,r.first+n=y:=⟨_,rfl⟩
    have hy1:y≤255:=by rw[←hy];exact HFIT.out HSZ.out
    have y0:IntKind.u8.wrap n=n:=IntWalk.u8_in _ (by omega);have y1:IntKind.u8.wrap (r.first+n)=y:=by rw[hy];exact IntWalk.u8_in _ (by omega)
    have hy0:0≤y:=by omega
    have HY:=QLh hy
    rw[hbr]
    try rw[hV]
    clear hV hbr hy cn cw cb
    refine Qp 14 11 (v.ownBlock) (Qaw [λ u _=>u=(pt b 0),λ u _=>u=(pt b 0),λ u _=>u=(pt b 0),λ u _=>u=(pt b 0),λ u _=>u=(v),λ u _=>u=(pt br 1),λ u _=>u=(.int .u8 r.first),λ u _=>u=(.int .u64 n),λ u _=>u=(.int .u8 n),λ u _=>u=(.int .u8 y),λ u w'=>∃b,u=.slice (some ⟨b,0,none⟩) 1 1∧some b≠v.ownBlock∧w'.heap[b]?=some (.cells ([.int .u8 y]).toArray 5 (0,0)),λ u w'=>w'.ownsRow (base) 5 1 u (s.size+1) (Lib.strCells s++[.int .u8 y]),λ u _=>u=(pt b 0),λ u _=>u=(pt b 0)]) rfl (by kernel_rfl) (by kernel_rfl) (Zb ⟨Qe,Qe,Qe,Qe,Qe,Qe,Qe,Qe,Qe,Qe,?m10,?m11,Qe,Qe,trivial⟩) (Q6 14 ⟨?s0,?s1,?s2,?s3,?s4,?s5,?s6,?s7,?s8,?s9,?s10,?s11,?s12,?s13,trivial⟩) ?_
    case m10=>
     exact⟨λ u w1 w' h ⟨b,h1,hb,hb'⟩=>⟨b,h1,hb,Zt h hb'⟩,λ _ u w1 w' h ⟨b,h1,hb,hb'⟩=>⟨b,h1,hb,Qn h hb hb'⟩⟩
    case m11=>
     exact⟨λ u w1 w' h hu=>Zi hu h,λ hn=>absurd rfl hn⟩
    case s0=>
     refine Qc (v:=(pt b 0)) (λ av wv hE hS hO hD=>?_) (λ _=>rfl)
     have f2:=QEf av 2 (pt bw 0) (hO.2.2 2 rfl);have c1:=Qd hE n1 c1;have c2:=Qd hE n2 c2;have c3:=Qd hE n3 c3;have c4:=Qd hE n4 c4
     refine⟨rfl,?_⟩
     simp[go_sem,f2,c1,c2,c3,c4,y0,y1]
    case s1=>
     refine Qc (v:=(pt b 0)) (λ av wv hE hS hO hD=>?_) (λ _=>rfl)
     have f2:=QEf av 2 (pt bw 0) (hO.2.2 2 rfl);have c1:=Qd hE n1 c1;have c2:=Qd hE n2 c2;have c3:=Qd hE n3 c3;have c4:=Qd hE n4 c4
     refine⟨rfl,?_⟩
     simp[go_sem,f2,c1,c2,c3,c4,y0,y1]
    case s2=>
     refine Qc (v:=(pt b 0)) (λ av wv hE hS hO hD=>?_) (λ _=>rfl)
     have f19:=QEf av 19 (pt b 0) (hD.1 rfl _ rfl)
     refine⟨rfl,?_⟩
     simp[go_sem,f19,y0,y1]
    case s3=>
     refine Qc (v:=(pt b 0)) (λ av wv hE hS hO hD=>?_) (λ _=>rfl)
     have f20:=QEf av 20 (pt b 0) (hD.1 rfl _ rfl)
     refine⟨rfl,?_⟩
     simp[go_sem,f20,y0,y1]
    case s4=>
     refine Qc (v:=(v)) (λ av wv hE hS hO hD=>?_) (λ _=>rfl)
     have f21:=QEf av 21 (pt b 0) (hD.1 rfl _ rfl);have c1:=Qd hE n1 c1;have c2:=Qd hE n2 c2;have c3:=Qd hE n3 c3;have c4:=Qd hE n4 c4
     refine⟨rfl,?_⟩
     simp[go_sem,f21,c1,c2,c3,c4,y0,y1]
    case s5=>
     refine Qc (v:=(pt br 1)) (λ av wv hE hS hO hD=>?_) (λ _=>rfl)
     have f3:=QEf av 3 (pt br 0) (hO.2.2 3 rfl)
     refine⟨rfl,?_⟩
     simp[go_sem,f3,y0,y1]
    case s6=>
     refine Qc (v:=(.int .u8 r.first)) (λ av wv hE hS hO hD=>?_) (λ _=>rfl)
     have f23:=QEf av 23 (pt br 1) (hD.1 rfl _ rfl);have c1:=Qd hE n1 c1;have c2:=Qd hE n2 c2;have c3:=Qd hE n3 c3;have c4:=Qd hE n4 c4
     refine⟨rfl,?_⟩
     simp[go_sem,f23,c1,c2,c3,c4,y0,y1]
    case s7=>
     refine Qc (v:=(.int .u64 n)) (λ av wv hE hS hO hD=>?_) (λ _=>rfl)
     have f1:=QEf av 1 (pt bn 0) (hO.2.2 1 rfl);have c1:=Qd hE n1 c1;have c2:=Qd hE n2 c2;have c3:=Qd hE n3 c3;have c4:=Qd hE n4 c4
     refine⟨rfl,?_⟩
     simp[go_sem,f1,c1,c2,c3,c4,y0,y1]
    case s8=>
     refine Qc (v:=(.int .u8 n)) (λ av wv hE hS hO hD=>?_) (λ _=>rfl)
     have f25:=QEf av 25 (.int .u64 n) (hD.1 rfl _ rfl)
     refine⟨rfl,?_⟩
     simp[go_sem,f25,y0,y1]
    case s9=>
     refine Qc (v:=(.int .u8 y)) (λ av wv hE hS hO hD=>?_) (λ _=>rfl)
     have f24:=QEf av 24 (.int .u8 r.first) (hD.1 rfl _ rfl);have f26:=QEf av 26 (.int .u8 n) (hD.2.1 rfl _ rfl)
     refine⟨rfl,?_⟩
     simp[go_sem,f24,f26,y0,y1]
    case s10=>
     refine Qo (λ av wv hE hS hO hD=>?_)
     have f27:=QEf av 27 (.int .u8 y) (hD.1 rfl _ rfl)
     refine⟨rfl,?_⟩
     refine Zn (v:=.slice (some ⟨wv.heap.size,0,none⟩) 1 1) (w':=wv.alloc (.cells ([.int .u8 y]).toArray 5)) (by first | (simp[go_sem,f27,y0,y1];done) | (simp[go_sem,f27,y0,y1];rfl)) ⟨_,rfl,Qm (Qh (Zr _) _),wv.heap.size,rfl,?_,heap_alloc_new _ _⟩
     exact λ e=>absurd (HQ.out _ e.symm).2 (by have:=hE.size;simp at this;omega)
    case s11=>
     refine Qo (λ av wv hE hS hO hD=>?_)
     have d22:av.eval (.tmp 22)=(v):=hD.1 rfl _ rfl;have f22:=(Qq av 22).symm.trans d22;have d28:(λ u w'=>∃b,u=.slice (some ⟨b,0,none⟩) 1 1∧some b≠v.ownBlock∧w'.heap[b]?=some (.cells ([.int .u8 y]).toArray 5 (0,0))) (av.eval (.tmp 28)) wv:=hD.2.1 rfl _ rfl
     refine⟨rfl,?_⟩
     obtain⟨bS,hS1,hbS,hcS⟩:=d28
     have hown1:wv.ownsRow (base) 5 1 (v) (s.size) (Lib.strCells s):=Zi (w:=World.drew _) (HOWN.out) (hS rfl)
     refine wp_append_lies wv _ _ _ rfl (base) 5 i0 (.int .u8 0) 1 1 Tryz.underlying106 hi hz0 hz1 hz2 rfl (by decide) (v) (s.size) _ d22 hown1 ⟨bS,0,none⟩ 1 1 ([.int .u8 y]) (by exact hS1) rfl (World.news_of_block hcS) (Qj2 _) (by decide) (by unfold maxLen;omega) (by omega) (by have:=hE.size;simp at this;omega) _ rfl ?_
     intro g cap1 w2 hown2 hgrow hat hlt2
     exact⟨_,rfl,Qcf hgrow,hown2⟩
    case s12=>
     refine Qc (v:=(pt b 0)) (λ av wv hE hS hO hD=>?_) (λ _=>rfl)
     have f18:=QEf av 18 (pt b 0) (hD.1 rfl _ rfl)
     refine⟨rfl,?_⟩
     simp[go_sem,f18,y0,y1]
    case s13=>
     refine Qc (v:=(pt b 0)) (λ av wv hE hS hO hD=>?_) (λ _=>rfl)
     have f30:=QEf av 30 (pt b 0) (hD.1 rfl _ rfl)
     refine⟨rfl,?_⟩
     simp[go_sem,f30,y0,y1]
    intro a' w' hE hO hall
    have hA:=Ql (ds:=[18,19,20,21,22,23,24,25,26,27,28,29,30,31]) rfl hO (by kernel_rfl);have e18:a'.eval (.tmp 18)=(pt b 0):=hall.1 _ rfl;have e19:a'.eval (.tmp 19)=(pt b 0):=hall.2.1 _ rfl;have e20:a'.eval (.tmp 20)=(pt b 0):=hall.2.2.1 _ rfl;have e21:a'.eval (.tmp 21)=(pt b 0):=hall.2.2.2.1 _ rfl;have e22:a'.eval (.tmp 22)=(v):=hall.2.2.2.2.1 _ rfl;have e23:a'.eval (.tmp 23)=(pt br 1):=hall.2.2.2.2.2.1 _ rfl;have e24:a'.eval (.tmp 24)=(.int .u8 r.first):=hall.2.2.2.2.2.2.1 _ rfl;have e25:a'.eval (.tmp 25)=(.int .u64 n):=hall.2.2.2.2.2.2.2.1 _ rfl;have e26:a'.eval (.tmp 26)=(.int .u8 n):=hall.2.2.2.2.2.2.2.2.1 _ rfl;have e27:a'.eval (.tmp 27)=(.int .u8 y):=hall.2.2.2.2.2.2.2.2.2.1 _ rfl;have e28:(λ u w'=>∃b,u=.slice (some ⟨b,0,none⟩) 1 1∧some b≠v.ownBlock∧w'.heap[b]?=some (.cells ([.int .u8 y]).toArray 5 (0,0))) (a'.eval (.tmp 28)) w':=hall.2.2.2.2.2.2.2.2.2.2.1 _ rfl;have e29:(λ u w'=>w'.ownsRow (base) 5 1 u (s.size+1) (Lib.strCells s++[.int .u8 y])) (a'.eval (.tmp 29)) w':=hall.2.2.2.2.2.2.2.2.2.2.2.1 _ rfl;have e30:a'.eval (.tmp 30)=(pt b 0):=hall.2.2.2.2.2.2.2.2.2.2.2.2.1 _ rfl;have e31:a'.eval (.tmp 31)=(pt b 0):=hall.2.2.2.2.2.2.2.2.2.2.2.2.2.1 _ rfl
    obtain⟨v28,hv28⟩:∃v,a'.eval (.tmp 28)=v:=⟨_,rfl⟩
    rw[hv28]at e28
    obtain⟨v29,hv29⟩:∃v,a'.eval (.tmp 29)=v:=⟨_,rfl⟩
    rw[hv29]at e29
    simp only[List.foldl_cons,List.foldl_nil,Act.put,List.setIfInBounds_toArray,List.set_cons_succ,List.set_cons_zero,e18,e19,e20,e21,e22,e23,e24,e25,e26,e27,hv28,hv29,e30,e31]at hA
    clear hO hall e18 e19 e20 e21 e22 e23 e24 e25 e26 e27 hv28 hv29 e30 e31
    subst hA
    obtain⟨ga,gc,rfl⟩:=Qcm e29
    have hst:=Qey (s':=s++baL [toB y]) hbase VV.out HOWN.out hE (by rw[Qgx];exact e29) (by rw[Ju,Qak hy0 hy1]);have HST:=QLh hst;have hc4:=hst.1;have hf4:=hst.2.1;clear hst hE e29
    go_wp2
    go_ret
    refine⟨Z7 HX.out.symm,?_,(WK.of_below VB.out HBS.out).trans HST.out.2.2.2⟩
    rw[HIF.out]
    have e4:Qj1 r n=[toB y]:=by unfold Qj1;rw[if_pos HSZ.out,HY.out]
    rw[e4];exact HST.out.2.2.1
   ·have e0:(r.size == 0)=false:=by simpa using hsz
    have HSZ:=QLh hsz;clear hsz
    go_upto_region 6 with fail
    obtain⟨br,hbr⟩:∃br,w.heap.size=br:=⟨_,rfl⟩
    obtain⟨V,hV⟩:∃V,w.alloc (.cells #[.int .u64 r.below,.int .u8 r.first,.int .i64 r.size] 332)=V:=⟨_,rfl⟩
    have VB:Hid (Below w.heap.size w V):=QLh (by rw[←hV];exact Qh (Below.refl _ _) _);have VR:Hid (V.heap[br]?=some (.cells #[.int .u64 r.below,.int .u8 r.first,.int .i64 r.size] 332 (0,0))):=QLh (by rw[←hV,←hbr];exact heap_alloc_new _ _);have VN:Hid (V.heap[bn]?=some (.cells #[.int .u64 n] 23 (0,0))):=QLh ((VB.out.block _ (lt_of_block HN.out)).trans HN.out);have VW:Hid (V.heap[bw]?=some (.cells #[pt b 0] 166 (0,0))):=QLh ((VB.out.block _ (lt_of_block HW2.out)).trans HW2.out);have VV:Hid (V.heap[b]?=some (.cells #[v] 265 (0,0))):=QLh ((VB.out.block _ hltb).trans HV.out);have HOWN:=QLh (Zi HOWN0.out VB.out);have HQ:Hid (∀g,v.ownBlock=some g→base≤g∧g<V.heap.size):=QLh (λ g hg=>HOWN.out.lt g hg);have n1:=Zz HOWN.out VN.out n8n;have n2:=Zz HOWN.out VW.out n8b;have n3:=Zz HOWN.out VR.out n8r;have n4:=Zz HOWN.out VV.out n8w;have c1:V.cell? ⟨bn,0,none⟩=some (.int .u64 n):=Qa VN.out 0;have c2:V.cell? ⟨bw,0,none⟩=some (pt b 0):=Qa VW.out 0;have c3:V.cell? ⟨br,1,none⟩=some (.int .u8 r.first):=Qa VR.out 1;have c4:V.cell? ⟨b,0,none⟩=some v:=Qa VV.out 0;have hbV:base≤V.heap.size:=Nat.le_trans hbase (Nat.le_of_lt (lt_of_block VV.out))
    rw[hbr]
    try rw[hV]
    clear hV hbr cn cw cb
    refine Qp 11 8 (v.ownBlock) (Qaw [λ u _=>u=(pt b 0),λ u _=>u=(pt b 0),λ u _=>u=(pt b 0),λ u _=>u=(pt b 0),λ u _=>u=(v),λ u _=>u=(pt br 1),λ u _=>u=(.int .u8 r.first),λ u w'=>∃b,u=.slice (some ⟨b,0,none⟩) 1 1∧some b≠v.ownBlock∧w'.heap[b]?=some (.cells ([.int .u8 r.first]).toArray 5 (0,0)),λ u w'=>w'.ownsRow (base) 5 1 u (s.size+1) (Lib.strCells s++[.int .u8 r.first]),λ u _=>u=(pt b 0),λ u _=>u=(pt b 0)]) rfl (by kernel_rfl) (by kernel_rfl) (Zb ⟨Qe,Qe,Qe,Qe,Qe,Qe,Qe,?m7,?m8,Qe,Qe,trivial⟩) (Q6 11 ⟨?s0,?s1,?s2,?s3,?s4,?s5,?s6,?s7,?s8,?s9,?s10,trivial⟩) ?_
    case m7=>
     exact⟨λ u w1 w' h ⟨b,h1,hb,hb'⟩=>⟨b,h1,hb,Zt h hb'⟩,λ _ u w1 w' h ⟨b,h1,hb,hb'⟩=>⟨b,h1,hb,Qn h hb hb'⟩⟩
    case m8=>
     exact⟨λ u w1 w' h hu=>Zi hu h,λ hn=>absurd rfl hn⟩
    case s0=>
     refine Qc (v:=(pt b 0)) (λ av wv hE hS hO hD=>?_) (λ _=>rfl)
     have f2:=QEf av 2 (pt bw 0) (hO.2.2 2 rfl);have c1:=Qd hE n1 c1;have c2:=Qd hE n2 c2;have c3:=Qd hE n3 c3;have c4:=Qd hE n4 c4
     refine⟨rfl,?_⟩
     simp[go_sem,f2,c1,c2,c3,c4]
    case s1=>
     refine Qc (v:=(pt b 0)) (λ av wv hE hS hO hD=>?_) (λ _=>rfl)
     have f2:=QEf av 2 (pt bw 0) (hO.2.2 2 rfl);have c1:=Qd hE n1 c1;have c2:=Qd hE n2 c2;have c3:=Qd hE n3 c3;have c4:=Qd hE n4 c4
     refine⟨rfl,?_⟩
     simp[go_sem,f2,c1,c2,c3,c4]
    case s2=>
     refine Qc (v:=(pt b 0)) (λ av wv hE hS hO hD=>?_) (λ _=>rfl)
     have f33:=QEf av 33 (pt b 0) (hD.1 rfl _ rfl)
     refine⟨rfl,?_⟩
     simp[go_sem,f33]
    case s3=>
     refine Qc (v:=(pt b 0)) (λ av wv hE hS hO hD=>?_) (λ _=>rfl)
     have f34:=QEf av 34 (pt b 0) (hD.1 rfl _ rfl)
     refine⟨rfl,?_⟩
     simp[go_sem,f34]
    case s4=>
     refine Qc (v:=(v)) (λ av wv hE hS hO hD=>?_) (λ _=>rfl)
     have f35:=QEf av 35 (pt b 0) (hD.1 rfl _ rfl);have c1:=Qd hE n1 c1;have c2:=Qd hE n2 c2;have c3:=Qd hE n3 c3;have c4:=Qd hE n4 c4
     refine⟨rfl,?_⟩
     simp[go_sem,f35,c1,c2,c3,c4]
    case s5=>
     refine Qc (v:=(pt br 1)) (λ av wv hE hS hO hD=>?_) (λ _=>rfl)
     have f3:=QEf av 3 (pt br 0) (hO.2.2 3 rfl)
     refine⟨rfl,?_⟩
     simp[go_sem,f3]
    case s6=>
     refine Qc (v:=(.int .u8 r.first)) (λ av wv hE hS hO hD=>?_) (λ _=>rfl)
     have f37:=QEf av 37 (pt br 1) (hD.1 rfl _ rfl);have c1:=Qd hE n1 c1;have c2:=Qd hE n2 c2;have c3:=Qd hE n3 c3;have c4:=Qd hE n4 c4
     refine⟨rfl,?_⟩
     simp[go_sem,f37,c1,c2,c3,c4]
    case s7=>
     refine Qo (λ av wv hE hS hO hD=>?_)
     have f38:=QEf av 38 (.int .u8 r.first) (hD.1 rfl _ rfl)
     refine⟨rfl,?_⟩
     refine Zn (v:=.slice (some ⟨wv.heap.size,0,none⟩) 1 1) (w':=wv.alloc (.cells ([.int .u8 r.first]).toArray 5)) (by first | (simp[go_sem,f38];done) | (simp[go_sem,f38];rfl)) ⟨_,rfl,Qm (Qh (Zr _) _),wv.heap.size,rfl,?_,heap_alloc_new _ _⟩
     exact λ e=>absurd (HQ.out _ e.symm).2 (by have:=hE.size;simp at this;omega)
    case s8=>
     refine Qo (λ av wv hE hS hO hD=>?_)
     have d36:av.eval (.tmp 36)=(v):=hD.1 rfl _ rfl;have f36:=(Qq av 36).symm.trans d36;have d39:(λ u w'=>∃b,u=.slice (some ⟨b,0,none⟩) 1 1∧some b≠v.ownBlock∧w'.heap[b]?=some (.cells ([.int .u8 r.first]).toArray 5 (0,0))) (av.eval (.tmp 39)) wv:=hD.2.1 rfl _ rfl
     refine⟨rfl,?_⟩
     obtain⟨bS,hS1,hbS,hcS⟩:=d39
     have hown1:wv.ownsRow (base) 5 1 (v) (s.size) (Lib.strCells s):=Zi (w:=World.drew _) (HOWN.out) (hS rfl)
     refine wp_append_lies wv _ _ _ rfl (base) 5 i0 (.int .u8 0) 1 1 Tryz.underlying106 hi hz0 hz1 hz2 rfl (by decide) (v) (s.size) _ d36 hown1 ⟨bS,0,none⟩ 1 1 ([.int .u8 r.first]) (by exact hS1) rfl (World.news_of_block hcS) (Qj2 _) (by decide) (by unfold maxLen;omega) (by omega) (by have:=hE.size;simp at this;omega) _ rfl ?_
     intro g cap1 w2 hown2 hgrow hat hlt2
     exact⟨_,rfl,Qcf hgrow,hown2⟩
    case s9=>
     refine Qc (v:=(pt b 0)) (λ av wv hE hS hO hD=>?_) (λ _=>rfl)
     have f32:=QEf av 32 (pt b 0) (hD.1 rfl _ rfl)
     refine⟨rfl,?_⟩
     simp[go_sem,f32]
    case s10=>
     refine Qc (v:=(pt b 0)) (λ av wv hE hS hO hD=>?_) (λ _=>rfl)
     have f41:=QEf av 41 (pt b 0) (hD.1 rfl _ rfl)
     refine⟨rfl,?_⟩
     simp[go_sem,f41]
    intro a' w' hE hO hall
    have hA:=Ql (ds:=[32,33,34,35,36,37,38,39,40,41,42]) rfl hO (by kernel_rfl);have e32:a'.eval (.tmp 32)=(pt b 0):=hall.1 _ rfl;have e33:a'.eval (.tmp 33)=(pt b 0):=hall.2.1 _ rfl;have e34:a'.eval (.tmp 34)=(pt b 0):=hall.2.2.1 _ rfl;have e35:a'.eval (.tmp 35)=(pt b 0):=hall.2.2.2.1 _ rfl;have e36:a'.eval (.tmp 36)=(v):=hall.2.2.2.2.1 _ rfl;have e37:a'.eval (.tmp 37)=(pt br 1):=hall.2.2.2.2.2.1 _ rfl;have e38:a'.eval (.tmp 38)=(.int .u8 r.first):=hall.2.2.2.2.2.2.1 _ rfl;have e39:(λ u w'=>∃b,u=.slice (some ⟨b,0,none⟩) 1 1∧some b≠v.ownBlock∧w'.heap[b]?=some (.cells ([.int .u8 r.first]).toArray 5 (0,0))) (a'.eval (.tmp 39)) w':=hall.2.2.2.2.2.2.2.1 _ rfl;have e40:(λ u w'=>w'.ownsRow (base) 5 1 u (s.size+1) (Lib.strCells s++[.int .u8 r.first])) (a'.eval (.tmp 40)) w':=hall.2.2.2.2.2.2.2.2.1 _ rfl;have e41:a'.eval (.tmp 41)=(pt b 0):=hall.2.2.2.2.2.2.2.2.2.1 _ rfl;have e42:a'.eval (.tmp 42)=(pt b 0):=hall.2.2.2.2.2.2.2.2.2.2.1 _ rfl
    obtain⟨v39,hv39⟩:∃v,a'.eval (.tmp 39)=v:=⟨_,rfl⟩
    rw[hv39]at e39
    obtain⟨v40,hv40⟩:∃v,a'.eval (.tmp 40)=v:=⟨_,rfl⟩
    rw[hv40]at e40
    simp only[List.foldl_cons,List.foldl_nil,Act.put,List.setIfInBounds_toArray,List.set_cons_succ,List.set_cons_zero,e32,e33,e34,e35,e36,e37,e38,hv39,hv40,e41,e42]at hA
    clear hO hall e32 e33 e34 e35 e36 e37 e38 hv39 hv40 e41 e42
    subst hA
    obtain⟨ga,gc,rfl⟩:=Qcm e40
    have hst:=Qey (s':=s++baL [toB r.first]) hbase VV.out HOWN.out hE (by rw[Qgx];exact e40) (by rw[Ju,Qak f0 f1]);have HST:=QLh hst;have hc4:=hst.1;have hf4:=hst.2.1;have HBR:Hid (w'.cell? ⟨br,2,none⟩=some (.int .i64 r.size)):=QLh (Qd hE n3 (Qa VR.out 2));clear hst hE e40 c1 c2 c3 c4;have hne:br≠b:=λ e=>by have h1:=VR.out;rw[e,VV.out]at h1;cases h1
    have c5:(w'.setCell ⟨b,0,none⟩ (.slice (some ⟨ga,0,none⟩) (s.size+1) gc)).cell? ⟨br,2,none⟩=some (.int .i64 r.size):=by
     have h:=(HST.out.2.2.2).keep br _ VR.out hne n8r
     exact Qa h 2
    obtain⟨k,hk⟩:=Int.eq_ofNat_of_zero_le s0
    have HKK:=QLh hk;have k8:k≤8:=by omega
    rw[hk]at c5
    have hw1:IntKind.i64.wrap ((k:Int) - 1)=(k:Int) - 1:=IntWalk.i64_in _ (by omega);clear hk HBR
    go_wp2
    obtain⟨V2,hV2⟩:∃V2,w'.setCell ⟨b,0,none⟩ (.slice (some ⟨ga,0,none⟩) (s.size+1) gc)=V2:=⟨_,rfl⟩
    have HWR2:Hid (WrB V2 b base (s++baL (toB r.first :: ((hiL n k).take (k - k)).map toB))):=QLh (by rw[←hV2,Nat.sub_self];exact HST.out.2.2.1);have HWK2:Hid (WK base b V V2):=QLh (by rw[←hV2];exact HST.out.2.2.2)
    try rw[hV2]
    clear hV2 HST hc4 hf4 c5 hw1 HWR;have nbn:bn≠b:=λ e=>by have h1:=VN.out;rw[e,VV.out]at h1;cases h1
    have nbw:bw≠b:=λ e=>by have h1:=VW.out;rw[e,VV.out]at h1;cases h1
    have hbVS:base≤V.heap.size:=hbV;clear n1 n2 n3 n4 hbV hltb HQ
    go_loopg [5] k (λ g i wr=>g≤k∧i=.int .i64 ((g:Int) - 1)∧Hid (WrB wr b base (s++baL (toB r.first :: ((hiL n k).take (k - g)).map toB)))∧Hid (WK base b V wr))
    case atStart=>exact⟨Nat.le_refl _,rfl,HWR2.out,HWK2.out⟩
    case round=>
     clear HWR2 HWK2
     obtain⟨hgk,rfl,HWR,HWK⟩:=hrel
     obtain⟨G,hG⟩:∃G,G=gk:=⟨_,rfl⟩
     subst hG
     cases G with
     | zero=>
      have e2:((0:Nat):Int) - 1=-1:=rfl
      rw[e2]
      clear e2
      go_wp2
      go_ret
      refine⟨Z7 HX.out.symm,?_,(WK.of_below VB.out HBS.out).trans HWK.out⟩
      rw[HIF.out]
      have e4:Qj1 r n=toB r.first :: ((hiL n k).take (k - 0)).map toB:=by
       unfold Qj1
       rw[if_neg HSZ.out,HKK.out,Nat.sub_zero,List.take_of_length_le (by rw[Qdo];exact Nat.le_refl _)];rfl
      rw[e4];exact HWR.out
     | succ i=>
      have e2:((i+1:Nat):Int) - 1=(i:Int):=by omega
      rw[e2]
      obtain⟨t,ht⟩:∃t,s++baL (toB r.first :: ((hiL n k).take (k - (i+1))).map toB)=t:=⟨_,rfl⟩
      have hts:t.size≤70000000000009:=by
       rw[←ht,ByteArray.size_append,Qbm,List.length_cons,List.length_map,List.length_take,Qdo];omega
      obtain⟨x,hx⟩:∃x,n / 2 ^ (8 * i) % 256=x:=⟨_,rfl⟩
      have hx0:0≤x∧x≤255:=by rw[←hx];omega
      have HT:Hid (s++baL (toB r.first :: ((hiL n k).take (k - i)).map toB)=t++baL [toB x]):=QLh (by
       rw[←ht,Qsk n k i (by omega),show(256:Int) ^ i=2 ^ (8 * i)by rw[Int.pow_mul];rfl,hx,List.map_append,←List.cons_append,Qn7,ByteArray.append_assoc];rfl)
      rw[ht]at HWR
      have y0:IntKind.u8.wrap (n / 2 ^ (8 * i))=x:=by rw[IntKind.wrap_u8];exact hx
      have y1:IntKind.i64.wrap (8 * (i:Int))=8 * (i:Int):=IntWalk.i64_in _ (by omega);have y2:0≤8 * (i:Int):=by omega
      have y3:(8 * (i:Int)).toNat=8 * i:=by omega
      clear ht e2 hx
      obtain⟨-,v,hv,hown⟩:=HWR.out
      have VV2:=QLh hv;have HOWN:=QLh hown;have VN2:=QLh (HWK.out.keep _ _ VN.out nbn n8n);have VW2:=QLh (HWK.out.keep _ _ VW.out nbw n8b);have n8w:Qmh (.cells #[v] 265 (0,0)):=Xj (by decide);have HQ:Hid (∀g,v.ownBlock=some g→base≤g∧g<wr.heap.size):=QLh (λ g hg=>HOWN.out.lt g hg);have n1:=Zz HOWN.out VN2.out n8n;have n2:=Zz HOWN.out VW2.out n8b;have n4:=Zz HOWN.out VV2.out n8w;have c1:wr.cell? ⟨bn,0,none⟩=some (.int .u64 n):=Qa VN2.out 0;have c2:wr.cell? ⟨bw,0,none⟩=some (pt b 0):=Qa VW2.out 0;have c4:wr.cell? ⟨b,0,none⟩=some v:=Qa VV2.out 0;have hbV:base≤wr.heap.size:=Nat.le_trans hbase (Nat.le_of_lt (lt_of_block VV2.out));clear hv hown
      go_upto_region 10 with fail
      refine Qp 14 11 (v.ownBlock) (Qaw [λ u _=>u=(pt b 0),λ u _=>u=(pt b 0),λ u _=>u=(pt b 0),λ u _=>u=(pt b 0),λ u _=>u=(v),λ u _=>u=(.int .u64 n),λ u _=>u=(.int .i64 i),λ u _=>u=(.int .i64 (8 * (i:Int))),λ u _=>u=(.int .u64 (n / 2 ^ (8 * i))),λ u _=>u=(.int .u8 x),λ u w'=>∃b,u=.slice (some ⟨b,0,none⟩) 1 1∧some b≠v.ownBlock∧w'.heap[b]?=some (.cells ([.int .u8 x]).toArray 5 (0,0)),λ u w'=>w'.ownsRow (base) 5 1 u (t.size+1) (Lib.strCells t++[.int .u8 x]),λ u _=>u=(pt b 0),λ u _=>u=(pt b 0)]) rfl (by kernel_rfl) (by kernel_rfl) (Zb ⟨Qe,Qe,Qe,Qe,Qe,Qe,Qe,Qe,Qe,Qe,?m10,?m11,Qe,Qe,trivial⟩) (Q6 14 ⟨?s0,?s1,?s2,?s3,?s4,?s5,?s6,?s7,?s8,?s9,?s10,?s11,?s12,?s13,trivial⟩) ?_
      case m10=>
       exact⟨λ u w1 w' h ⟨b,h1,hb,hb'⟩=>⟨b,h1,hb,Zt h hb'⟩,λ _ u w1 w' h ⟨b,h1,hb,hb'⟩=>⟨b,h1,hb,Qn h hb hb'⟩⟩
      case m11=>
       exact⟨λ u w1 w' h hu=>Zi hu h,λ hn=>absurd rfl hn⟩
      case s0=>
       refine Qc (v:=(pt b 0)) (λ av wv hE hS hO hD=>?_) (λ _=>rfl)
       have f2:=QEf av 2 (pt bw 0) (hO.2.2 2 rfl);have c1:=Qd hE n1 c1;have c2:=Qd hE n2 c2;have c4:=Qd hE n4 c4
       refine⟨rfl,?_⟩
       simp[go_sem,f2,c1,c2,c4,y0,y1,y2,y3]
      case s1=>
       refine Qc (v:=(pt b 0)) (λ av wv hE hS hO hD=>?_) (λ _=>rfl)
       have f2:=QEf av 2 (pt bw 0) (hO.2.2 2 rfl);have c1:=Qd hE n1 c1;have c2:=Qd hE n2 c2;have c4:=Qd hE n4 c4
       refine⟨rfl,?_⟩
       simp[go_sem,f2,c1,c2,c4,y0,y1,y2,y3]
      case s2=>
       refine Qc (v:=(pt b 0)) (λ av wv hE hS hO hD=>?_) (λ _=>rfl)
       have f51:=QEf av 51 (pt b 0) (hD.1 rfl _ rfl)
       refine⟨rfl,?_⟩
       simp[go_sem,f51,y0,y1,y2,y3]
      case s3=>
       refine Qc (v:=(pt b 0)) (λ av wv hE hS hO hD=>?_) (λ _=>rfl)
       have f52:=QEf av 52 (pt b 0) (hD.1 rfl _ rfl)
       refine⟨rfl,?_⟩
       simp[go_sem,f52,y0,y1,y2,y3]
      case s4=>
       refine Qc (v:=(v)) (λ av wv hE hS hO hD=>?_) (λ _=>rfl)
       have f53:=QEf av 53 (pt b 0) (hD.1 rfl _ rfl);have c1:=Qd hE n1 c1;have c2:=Qd hE n2 c2;have c4:=Qd hE n4 c4
       refine⟨rfl,?_⟩
       simp[go_sem,f53,c1,c2,c4,y0,y1,y2,y3]
      case s5=>
       refine Qc (v:=(.int .u64 n)) (λ av wv hE hS hO hD=>?_) (λ _=>rfl)
       have f1:=QEf av 1 (pt bn 0) (hO.2.2 1 rfl);have c1:=Qd hE n1 c1;have c2:=Qd hE n2 c2;have c4:=Qd hE n4 c4
       refine⟨rfl,?_⟩
       simp[go_sem,f1,c1,c2,c4,y0,y1,y2,y3]
      case s6=>
       refine Qc (v:=(.int .i64 i)) (λ av wv hE hS hO hD=>?_) (λ _=>rfl)
       have f5:=QEf av 5 (.int .i64 i) (hO.2.2 5 rfl)
       refine⟨rfl,?_⟩
       simp[go_sem,f5,y0,y1,y2,y3]
      case s7=>
       refine Qc (v:=(.int .i64 (8 * (i:Int)))) (λ av wv hE hS hO hD=>?_) (λ _=>rfl)
       have f56:=QEf av 56 (.int .i64 i) (hD.1 rfl _ rfl)
       refine⟨rfl,?_⟩
       simp[go_sem,f56,y0,y1,y2,y3]
      case s8=>
       refine Qc (v:=(.int .u64 (n / 2 ^ (8 * i)))) (λ av wv hE hS hO hD=>?_) (λ _=>rfl)
       have f55:=QEf av 55 (.int .u64 n) (hD.1 rfl _ rfl);have f57:=QEf av 57 (.int .i64 (8 * (i:Int))) (hD.2.1 rfl _ rfl)
       refine⟨rfl,?_⟩
       simp[go_sem,f55,f57,y0,y1,y2,y3]
      case s9=>
       refine Qc (v:=(.int .u8 x)) (λ av wv hE hS hO hD=>?_) (λ _=>rfl)
       have f58:=QEf av 58 (.int .u64 (n / 2 ^ (8 * i))) (hD.1 rfl _ rfl)
       refine⟨rfl,?_⟩
       simp[go_sem,f58,y0,y1,y2,y3]
      case s10=>
       refine Qo (λ av wv hE hS hO hD=>?_)
       have f59:=QEf av 59 (.int .u8 x) (hD.1 rfl _ rfl)
       refine⟨rfl,?_⟩
       refine Zn (v:=.slice (some ⟨wv.heap.size,0,none⟩) 1 1) (w':=wv.alloc (.cells ([.int .u8 x]).toArray 5)) (by first | (simp[go_sem,f59,y0,y1,y2,y3];done) | (simp[go_sem,f59,y0,y1,y2,y3];rfl)) ⟨_,rfl,Qm (Qh (Zr _) _),wv.heap.size,rfl,?_,heap_alloc_new _ _⟩
       exact λ e=>absurd (HQ.out _ e.symm).2 (by have:=hE.size;simp at this;omega)
      case s11=>
       refine Qo (λ av wv hE hS hO hD=>?_)
       have d54:av.eval (.tmp 54)=(v):=hD.1 rfl _ rfl;have f54:=(Qq av 54).symm.trans d54;have d60:(λ u w'=>∃b,u=.slice (some ⟨b,0,none⟩) 1 1∧some b≠v.ownBlock∧w'.heap[b]?=some (.cells ([.int .u8 x]).toArray 5 (0,0))) (av.eval (.tmp 60)) wv:=hD.2.1 rfl _ rfl
       refine⟨rfl,?_⟩
       obtain⟨bS,hS1,hbS,hcS⟩:=d60
       have hown1:wv.ownsRow (base) 5 1 (v) (t.size) (Lib.strCells t):=Zi (w:=World.drew _) (HOWN.out) (hS rfl)
       refine wp_append_lies wv _ _ _ rfl (base) 5 i0 (.int .u8 0) 1 1 Tryz.underlying106 hi hz0 hz1 hz2 rfl (by decide) (v) (t.size) _ d54 hown1 ⟨bS,0,none⟩ 1 1 ([.int .u8 x]) (by exact hS1) rfl (World.news_of_block hcS) (Qj2 _) (by decide) (by unfold maxLen;omega) (by omega) (by have:=hE.size;simp at this;omega) _ rfl ?_
       intro g cap1 w2 hown2 hgrow hat hlt2
       exact⟨_,rfl,Qcf hgrow,hown2⟩
      case s12=>
       refine Qc (v:=(pt b 0)) (λ av wv hE hS hO hD=>?_) (λ _=>rfl)
       have f50:=QEf av 50 (pt b 0) (hD.1 rfl _ rfl)
       refine⟨rfl,?_⟩
       simp[go_sem,f50,y0,y1,y2,y3]
      case s13=>
       refine Qc (v:=(pt b 0)) (λ av wv hE hS hO hD=>?_) (λ _=>rfl)
       have f62:=QEf av 62 (pt b 0) (hD.1 rfl _ rfl)
       refine⟨rfl,?_⟩
       simp[go_sem,f62,y0,y1,y2,y3]
      intro a' w' hE hO hall
      have hA:=Ql (ds:=[50,51,52,53,54,55,56,57,58,59,60,61,62,63]) rfl hO (by kernel_rfl);have e50:a'.eval (.tmp 50)=(pt b 0):=hall.1 _ rfl;have e51:a'.eval (.tmp 51)=(pt b 0):=hall.2.1 _ rfl;have e52:a'.eval (.tmp 52)=(pt b 0):=hall.2.2.1 _ rfl;have e53:a'.eval (.tmp 53)=(pt b 0):=hall.2.2.2.1 _ rfl;have e54:a'.eval (.tmp 54)=(v):=hall.2.2.2.2.1 _ rfl;have e55:a'.eval (.tmp 55)=(.int .u64 n):=hall.2.2.2.2.2.1 _ rfl;have e56:a'.eval (.tmp 56)=(.int .i64 i):=hall.2.2.2.2.2.2.1 _ rfl;have e57:a'.eval (.tmp 57)=(.int .i64 (8 * (i:Int))):=hall.2.2.2.2.2.2.2.1 _ rfl;have e58:a'.eval (.tmp 58)=(.int .u64 (n / 2 ^ (8 * i))):=hall.2.2.2.2.2.2.2.2.1 _ rfl;have e59:a'.eval (.tmp 59)=(.int .u8 x):=hall.2.2.2.2.2.2.2.2.2.1 _ rfl;have e60:(λ u w'=>∃b,u=.slice (some ⟨b,0,none⟩) 1 1∧some b≠v.ownBlock∧w'.heap[b]?=some (.cells ([.int .u8 x]).toArray 5 (0,0))) (a'.eval (.tmp 60)) w':=hall.2.2.2.2.2.2.2.2.2.2.1 _ rfl;have e61:(λ u w'=>w'.ownsRow (base) 5 1 u (t.size+1) (Lib.strCells t++[.int .u8 x])) (a'.eval (.tmp 61)) w':=hall.2.2.2.2.2.2.2.2.2.2.2.1 _ rfl;have e62:a'.eval (.tmp 62)=(pt b 0):=hall.2.2.2.2.2.2.2.2.2.2.2.2.1 _ rfl;have e63:a'.eval (.tmp 63)=(pt b 0):=hall.2.2.2.2.2.2.2.2.2.2.2.2.2.1 _ rfl
      obtain⟨v60,hv60⟩:∃v,a'.eval (.tmp 60)=v:=⟨_,rfl⟩
      rw[hv60]at e60
      obtain⟨v61,hv61⟩:∃v,a'.eval (.tmp 61)=v:=⟨_,rfl⟩
      rw[hv61]at e61
      simp only[List.foldl_cons,List.foldl_nil,Act.put,List.setIfInBounds_toArray,List.set_cons_succ,List.set_cons_zero,e50,e51,e52,e53,e54,e55,e56,e57,e58,e59,hv60,hv61,e62,e63]at hA
      clear hO hall e50 e51 e52 e53 e54 e55 e56 e57 e58 e59 hv60 hv61 e62 e63
      subst hA
      obtain⟨ga,gc,rfl⟩:=Qcm e61
      have hst:=Qey (s':=t++baL [toB x]) hbase VV2.out HOWN.out hE (by rw[Qgx];exact e61) (by rw[Ju,Qak hx0.1 hx0.2]);have HST:=QLh hst;have hc4:=hst.1;have hf4:=hst.2.1;clear hst hE e61 c1 c2 c4 n1 n2 n4
      go_wp2
      go_roundg i
      case rel=>exact⟨by omega,by go_num,by rw[HT.out];exact HST.out.2.2.1,HWK.out.trans HST.out.2.2.2⟩
      case measure=>omega
 ·have HX:Hid (decide (n<r.below ∨ r.below=0)=false):=QLh (decide_eq_false hx)
  have g1:decide (r.below≤n)=true:=by simp;omega
  have g2:decide (0<r.below)=true:=by have:=HR.out.b0;simp;omega
  have HNX:=QLh hx;clear hx
  go_enter Tryz.func255,Tryz.ntmps255
  go_wp2
  go_ret
  exact⟨Z7 HX.out.symm,by rw[if_neg HNX.out];exact HWR.out.below (by(repeat (first | exact Below.refl _ _ | assumption | (refine Zd ?_) | (refine Zc ?_ _) | (refine Qh ?_ _) | (refine Zs ?_ (by first | omega | (simp;done) | (simp;omega)) _) | (refine Qk ?_ (by assumption))))),WK.of_below (by(repeat (first | exact Below.refl _ _ | assumption | (refine Zd ?_) | (refine Zc ?_ _) | (refine Qh ?_ _) | (refine Zs ?_ (by first | omega | (simp;done) | (simp;omega)) _) | (refine Qk ?_ (by assumption))))) (by have:=HWR.out.1;have:=HWR.out.lt;omega)⟩
structure PTab(B:Nat)(w:World):Prop where
 glob:4<B
 size:B≤w.heap.size
 tab:∀k,k<5→∃tb tq rc,tb<B∧w.cell? ⟨4,k,none⟩=some (.slice (some ⟨tb,tq,none⟩) (len (Xz k)) rc)∧Qsi w (some ⟨tb,tq,none⟩) (Xz k)
theorem PTab.keep{B B':Nat}{w w':World}(h:PTab B w)(hb:Below B' w w')(hB:B≤B'):PTab B w':=by
 refine⟨h.glob,Nat.le_trans h.size hb.size,λ k hk=>?_⟩
 obtain⟨tb,tq,rc,h1,h2,h3⟩:=h.tab k hk
 have e:∀b o,b<B→w'.cell? ⟨b,o,none⟩=w.cell? ⟨b,o,none⟩:=λ b o hb2=>hb.cell (p:=⟨b,o,none⟩) (Nat.lt_of_lt_of_le hb2 hB)
 refine⟨tb,tq,rc,h1,(e _ _ h.glob).trans h2,λ i hi=>?_⟩
 obtain⟨b,off,e2,c0,c1,c2⟩:=h3 i hi
 cases e2
 exact⟨tb,tq,rfl,(e _ _ h1).trans c0,(e _ _ h1).trans c1,(e _ _ h1).trans c2⟩
theorem Qmi(k:Nat):0<len (Xz k):=by
 unfold Xz;split <;> simp[len]
theorem Qvp{sort:Nat}{n:Int}(h0:0≤n)(i:Nat)(hi:i<len (Xz sort)):(Qj0 (Xz sort) i).Ok n:=by
 have hi':i<(Xz sort).length:=hi
 rw[Qii _ i hi']
 have hm:(Xz sort)[i] ∈ Xz sort:=List.getElem_mem _
 generalize (Xz sort)[i]=r at hm
 unfold Xz at hm
 split at hm <;> simp at hm
 ·rcases hm with rfl | rfl <;> exact⟨by decide,by decide,by decide,by decide,by decide,by decide,λ h=>by simp at h⟩
 ·rcases hm with rfl | rfl | rfl
  ·exact⟨by decide,by decide,by decide,by decide,by decide,by decide,λ _ h=>by simp at h;simp;omega⟩
  ·exact⟨by decide,by decide,by decide,by decide,by decide,by decide,λ h=>by simp at h⟩
  ·exact⟨by decide,by decide,by decide,by decide,by decide,by decide,λ h=>by simp at h⟩
 ·rcases hm with rfl | rfl
  ·exact⟨by decide,by decide,by decide,by decide,by decide,by decide,λ _ h=>by simp at h;simp;omega⟩
  ·exact⟨by decide,by decide,by decide,by decide,by decide,by decide,λ h=>by simp at h⟩
 ·rcases hm with rfl | rfl
  ·exact⟨by decide,by decide,by decide,by decide,by decide,by decide,λ _ h=>by simp at h;simp;omega⟩
  ·exact⟨by decide,by decide,by decide,by decide,by decide,by decide,λ h=>by simp at h⟩
 ·rcases hm with rfl | rfl | rfl | rfl | rfl
  ·exact⟨by decide,by decide,by decide,by decide,by decide,by decide,λ _ h=>by simp at h;simp;omega⟩
  all_goals exact⟨by decide,by decide,by decide,by decide,by decide,by decide,λ h=>by simp at h⟩
theorem Qvq{sort i:Nat}{n:Int}(hi:i<len (Xz sort))(hn:∀j,j<i→¬(n<(Qj0 (Xz sort) j).below ∨ (Qj0 (Xz sort) j).below=0))(hy:n<(Qj0 (Xz sort) i).below ∨ (Qj0 (Xz sort) i).below=0):Xu sort n=Qj1 (Qj0 (Xz sort) i) n:=by
 have hi':i<(Xz sort).length:=hi;have hf:(Xz sort).find? (λ r=>decide (n<r.below ∨ r.below=0))=some (Qj0 (Xz sort) i):=by
  rw[Qii _ i hi']at hy ⊢
  rw[List.find?_eq_some_iff_getElem]
  refine⟨by simpa using hy,i,hi',rfl,λ j hj=>?_⟩
  have:=hn j hj
  rw[Qii _ j (by omega)]at this
  simpa using this
 unfold Xu
 rw[hf]
theorem Qsm{sort:Nat}{n:Int}(hn:∀j,j<len (Xz sort)→¬(n<(Qj0 (Xz sort) j).below ∨ (Qj0 (Xz sort) j).below=0)):Xu sort n=[]:=by
 have hf:(Xz sort).find? (λ r=>decide (n<r.below ∨ r.below=0))=none:=by
  rw[List.find?_eq_none]
  intro x hx
  obtain⟨j,hj,rfl⟩:=List.getElem_of_mem hx
  have:=hn j hj
  rw[Qii _ j hj]at this
  simpa using this
 unfold Xu
 rw[hf]
theorem Qj3{w w':World}{tb tq B B':Nat}{l:List PRow}(h:Qsi w (some ⟨tb,tq,none⟩) l)(htb:tb<B)(hb:Below B' w w')(hB:B≤B'):Qsi w' (some ⟨tb,tq,none⟩) l:=λ i hi=>by
 have e:∀o,w'.cell? ⟨tb,o,none⟩=w.cell? ⟨tb,o,none⟩:=λ o=>hb.cell (p:=⟨tb,o,none⟩) (Nat.lt_of_lt_of_le htb hB)
 obtain⟨b,off,e2,c0,c1,c2⟩:=h i hi
 cases e2
 exact⟨tb,tq,rfl,(e _).trans c0,(e _).trans c1,(e _).trans c2⟩
def Qyl(s':ByteArray)(b base:Nat)(w:World)(e:Ending)(w':World):Prop:=e=.returned (.tuple #[])∧WrB w' b base s'∧WK base b w w'
theorem Qmj(B b base sort:Nat)(n:Int)(s:ByteArray)(w:World)(ht:PTab B w)(hB:B≤base)(hW:WrB w b base s)(h5:sort<5)(h0:0≤n)(h1:n≤18446744073709551615)(hs:s.size≤70000000000000):
  Calls Tryz.prog 222 #[pt b 0,.int .i64 sort,.int .u64 n] w (Qyl (s++baL (Xu sort n)) b base w):=by
 have HT:=QLh ht;have HWR:=QLh hW
 obtain⟨tb,tq,rc,htb,hg,hrows⟩:=ht.tab sort h5
 have HROWS:=QLh hrows;have HBS:Hid (base≤w.heap.size):=QLh (by have:=hW.1;have:=hW.lt;omega);have hgl:4<w.heap.size:=Qw hg;have i5:(sort:Int)<5:=by omega
 have eg:=enters_of Tryz.func255 (by kernel_rfl) rfl;clear hrows ht hW
 obtain⟨nr,hnr⟩:∃nr,len (Xz sort)=nr:=⟨_,rfl⟩
 have HNR:=QLh hnr;have nr5:nr≤5:=by rw[←hnr];unfold Xz;split <;> simp[len]
 rw[hnr]at hg
 clear hnr
 go_enter Tryz.func222,Tryz.ntmps222
 go_wp2
 obtain⟨bw,hbw⟩:∃bw,w.heap.size=bw:=⟨_,rfl⟩
 obtain⟨V,hV⟩:∃V,(w.alloc (.cells #[pt b 0] 166)).alloc (.cells #[.int .u64 n] 23)=V:=⟨_,rfl⟩
 have VW:Hid (V.heap[bw]?=some (.cells #[pt b 0] 166 (0,0))):=QLh (by rw[←hV,←hbw];exact Qf (heap_alloc_new _ _) _);have VN:Hid (V.heap[bw+1]?=some (.cells #[.int .u64 n] 23 (0,0))):=QLh (by rw[←hV,←hbw];exact Qi _ (by simp));have VB:Hid (Below w.heap.size w V):=QLh (by rw[←hV];(repeat (first | exact Below.refl _ _ | assumption | (refine Zd ?_) | (refine Zc ?_ _) | (refine Qh ?_ _) | (refine Zs ?_ (by first | omega | (simp;done) | (simp;omega)) _) | (refine Qk ?_ (by assumption)))))
 have HWV:Hid (WrB V b base s):=QLh (HWR.out.below VB.out);have hbb:Hid (b<bw):=QLh (by rw[←hbw];exact HWR.out.lt);have HBV:Hid (base≤V.heap.size):=QLh (by have:=VB.out.size;have:=HBS.out;omega)
 rw[hbw]
 try rw[hV]
 clear hV hbw hgl
 go_loopg [14] nr (λ g i wr=>∃m:Nat,g+m=nr∧i=.int .i64 m∧Hid (∀j,j<m→¬(n<(Qj0 (Xz sort) j).below ∨ (Qj0 (Xz sort) j).below=0))∧Hid (WrB wr b base s)∧Hid (WK base b V wr))
 case atStart=>exact⟨0,rfl,rfl,λ j hj=>by omega,HWV.out,WK.refl _ _ _⟩
 case round=>
  clear HWV
  obtain⟨m,hm,rfl,HN,HWW,HWK⟩:=hrel
  by_cases hlt:m<nr
  ·have i1:(m:Int)<nr:=by omega
   obtain⟨rb,ro,hre,c0,c1,c2⟩:=Qj3 (Qj3 HROWS.out htb VB.out (Nat.le_trans hB HBS.out)) htb HWK.out.bel hB m (by rw[HNR.out];exact hlt)
   cases hre
   obtain⟨r,hr⟩:∃r,Qj0 (Xz sort) m=r:=⟨_,rfl⟩
   have HRE:=QLh hr
   rw[hr]at c0 c1 c2
   clear hr;have n8n:Qmh (.cells #[.int .u64 n] 23 (0,0)):=Xj (by decide);have n8b:Qmh (.cells #[pt b 0] 166 (0,0)):=Xj (by decide)
   go_wp2_with fail
   refine(Qsl r (bw+1) bw b base n s _ (Qf (HWK.out.keep _ _ VN.out (by have:=hbb.out;omega) n8n) _) (Qf (HWK.out.keep _ _ VW.out (by have:=hbb.out;omega) n8b) _) (HWW.out.below (Qh (Below.refl _ _) _)) h0 h1 (by rw[←HRE.out];exact Qvp h0 m (by rw[HNR.out];exact hlt)) hs).mono ?_
   rintro e w6 ⟨rfl,hw6,hk6⟩
   have HK6:Hid (WK base b V w6):=QLh ((HWK.out.next (Qh (Below.refl _ _) _) HBV.out).trans hk6);have HW6:=QLh hw6;clear hw6 hk6 HWK HWW c0 c1 c2 n8n n8b
   by_cases hx:n<r.below ∨ r.below=0
   ·rw[decide_eq_true hx]
    rw[if_pos hx]at HW6
    have HP:Hid (Xu sort n=Qj1 r n):=QLh (by rw[←HRE.out];exact Qvq (by rw[HNR.out];exact hlt) HN.out (by rw[HRE.out];exact hx));clear hx
    go_wp2
    refine bodyPost_ret (results_none rfl _ _ _) rfl ?_
    refine⟨rfl,?_,(WK.of_below VB.out HBS.out).trans HK6.out⟩
    rw[HP.out];exact HW6.out
   ·rw[decide_eq_false hx]
    rw[if_neg hx]at HW6
    have HN2:Hid (∀j,j<m+1→¬(n<(Qj0 (Xz sort) j).below ∨ (Qj0 (Xz sort) j).below=0)):=QLh (λ j hj=>by
     by_cases e:j=m
     ·subst e;rw[HRE.out];exact hx
     ·exact HN.out j (by omega))
    clear hx
    go_wp2
    go_roundg (nr - (m+1))
    case rel=>exact⟨m+1,by omega,by go_num,HN2.out,HW6.out,HK6.out⟩
    case measure=>omega
  ·obtain rfl:m=nr:=by omega
   have i1:¬(m:Int)<m:=by omega
   go_wp2
   go_end0
   refine⟨rfl,?_,(WK.of_below VB.out HBS.out).trans HWK.out⟩
   rw[Qsm (λ j hj=>HN.out j (by rw[HNR.out]at hj;exact hj))]
   have e:s++baL []=s:=Xx (by simp[baL])
   rw[e];exact HWW.out
def Xo:List ByteArray→ByteArray
 | []=>ByteArray.empty
 | x :: r=>x++Xo r
theorem Qd2:∀a b:List ByteArray,Xo (a++b)=Xo a++Xo b
 | [],b=>by simp[Xo]
 | x :: r,b=>by rw[List.cons_append,Xo,Qd2 r b,Xo,ByteArray.append_assoc]
theorem Qfs(a:List ByteArray)(x:ByteArray):Xo (a++[x])=Xo a++x:=by rw[Qd2];simp[Xo]
structure FSpec where
 key:ByteArray
 must:Bool
 empty:Bool
 may:Bool
 bytes:ByteArray
def Qpd(s:ByteArray):ByteArray:=Qa7 2 s.size s
def Jv(s:ByteArray):ByteArray:=Qa7 1 s.size s
def Xr(n:Int):ByteArray:=Qa7 0 n ByteArray.empty
def Z0(n:Nat):ByteArray:=Qa7 3 n ByteArray.empty
def Qhs(n:Nat):ByteArray:=Qa7 4 n ByteArray.empty
def Jh(f:FSpec):ByteArray:=Qpd f.key++f.bytes
def J6(l:List FSpec):List FSpec:=l.filter λ f=>!f.empty
def Qbj(l:List FSpec):ByteArray:=Qhs (J6 l).length++Xo ((J6 l).map Jh)
def Q8(l:List FSpec):Bool:=l.all λ f=>f.may
def Qao(l:List (ByteArray × ByteArray)):List (ByteArray × ByteArray):=l.filter λ p=>decide (p.2.size≠0)
def Zw(l:List (ByteArray × ByteArray)):ByteArray:=Qhs (Qao l).length++Xo ((Qao l).map λ p=>Qpd p.1++p.2)
theorem Qkz:∀(l:List FSpec) (r:List (ByteArray × ByteArray)),l.length=r.length→(∀i (h:i<l.length) (h':i<r.length),l[i].key=r[i].1∧(l[i].empty=true ↔ r[i].2.size=0)∧(l[i].empty=false→l[i].bytes=r[i].2))→
  (J6 l).length=(Qao r).length∧Xo ((J6 l).map Jh)=Xo ((Qao r).map λ p=>Qpd p.1++p.2)
 | [],[],_,_=>⟨rfl,rfl⟩
 | [],_ :: _,h,_=>by simp at h
 | _ :: _,[],h,_=>by simp at h
 | f :: l,p :: r,h,hh=>by
  have ih:=Qkz l r (by simpa using h) (λ i h1 h2=>hh (i+1) (by simpa using h1) (by simpa using h2));have h0:=hh 0 (by simp) (by simp)
  simp only[List.getElem_cons_zero]at h0
  obtain⟨e1,e2,e3⟩:=h0
  unfold J6 Qao at ih ⊢
  cases he:f.empty with
  | true=>
   have h2:=e2.1 he
   rw[List.filter_cons_of_neg (by simp[he]),List.filter_cons_of_neg (by simp[h2])]
   exact ih
  | false=>
   have h2:p.2.size≠0:=λ h=>by rw[e2.2 h]at he;cases he
   rw[List.filter_cons_of_pos (by simp[he]),List.filter_cons_of_pos (by simp[h2])]
   refine⟨by simp[ih.1],?_⟩
   rw[List.map_cons,List.map_cons,Xo,Xo,ih.2]
   unfold Jh
   rw[e1,e3 he]
theorem Qym{l:List FSpec}{r:List (ByteArray × ByteArray)}(h:l.length=r.length)(hh:∀i (h:i<l.length) (h':i<r.length),l[i].key=r[i].1∧(l[i].empty=true ↔ r[i].2.size=0)∧(l[i].empty=false→l[i].bytes=r[i].2)):Qbj l=Zw r:=by
 obtain⟨h1,h2⟩:=Qkz l r h hh
 unfold Qbj Zw
 rw[h1,h2]
end Go.Proofs.YtihiaopilnjonaaGreatDoor

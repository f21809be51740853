/- Parts of the proof, one behind the other. -/
import Derived.Test.YtpobhbdomldecaaGreatDoorRows
import Derived.WalkKit
import Derived.WalkSpells
import Derived.WalkLawsBesides
import Derived.Lib.Hide
import Derived.Deep.Draws
import Derived.Shelf.Spec.BitsCarry
import Derived.Deep.QuietTactic
import Derived.BigQuiet
import Derived.StillTailTactics
import Derived.Deep.LoopGhost
import Derived.Deep.RegionWith
import Derived.Deep.DeepCutAuto
import Derived.Deep.AppendLies
import Derived.Laws.OwnMore
import Derived.Deep.CutBlock
import Derived.StillTail
import Derived.NoCompiler
import Derived.IntWalk
import Derived.WalkMore
import Derived.Lib.ConvBytes
import Derived.Lib.Strings
import Derived.Defers
import Derived.Recover
import Derived.LaidEql
import Derived.Stop.Asserts
import Derived.RowKitTokens
import Derived.Lib.AppendStr
set_option linter.unusedSimpArgs false
set_option linter.unusedVariables false
set_option maxRecDepth 100000
set_option maxHeartbeats 40000000
namespace Go.Proofs.YtpobhbdomldecaaGreatDoor
open Go.RowKit
theorem QLh {P : Prop} (h : P) : Hid P := Lib.hid h
def len{α:Type}(l:List α):Nat:=l.length
theorem Qy{α:Type}(l:List α):len l=l.length:=rfl
theorem Xh{α:Type}(l:List α):l.take (len l)=l:=List.take_length
def nth(l:List Int)(i:Nat):Int:=l.getD i 0
theorem Jb(l:List Int)(i:Nat)(h:i<l.length):nth l i=l[i]:=by unfold nth;rw[List.getD_eq_getElem?_getD,List.getElem?_eq_getElem h];rfl
theorem Ql{w:World}{b o:Nat}{v:Value}(h:w.cell? ⟨b,o,none⟩=some v):b<w.heap.size:=by
 unfold World.cell? at h
 rcases Nat.lt_or_ge b w.heap.size with h' | h'
 ·exact h'
 ·simp[Array.getElem?_eq_none h']at h
theorem Xv{a b:Bool}(h:a=b):Ending.returned (.bool a)=.returned (.bool b):=by rw[h]
theorem Jy{k:IntKind}{a b:Int}(h:a=b):Ending.returned (.int k a)=.returned (.int k b):=by rw[h]
theorem QbA{B:Nat}{a w:World}(h:Below B a w)(n:Nat):Below B a (w.drewN n):=⟨h.os,h.tape,h.output,h.size,h.block⟩
theorem Qa{w:World}{b:Nat}{cs:Array Value}{t:TypeId}{fr:Nat × Nat}(h:w.heap[b]?=some (.cells cs t fr))(o:Nat):w.cell? ⟨b,o,none⟩=cs[o]?:=by unfold World.cell?;rw[h];rfl
theorem Qk{w:World}{b:Nat}{cs:Array Value}{t:TypeId}(h:w.heap[b]?=some (.cells cs t (0,0)))(o:Nat):w.frozen? ⟨b,o,none⟩=false:=by unfold World.frozen?;rw[h];simp
theorem Qe{w:World}{b:Nat}{x:Obj}(h:w.heap[b]?=some x)(o:Obj):(w.alloc o).heap[b]?=some x:=by rw[Below.heap_alloc _ _ _ (lt_of_block h)];exact h
theorem Qg{w:World}{n:Nat}(o:Obj)(h:w.heap.size=n):(w.alloc o).heap[n]?=some o:=by subst h;exact heap_alloc_new w o
theorem Q3{w:World}{n:Nat}(o:Obj)(h:w.heap.size=n):(w.alloc o).heap.size=n+1:=by simp;exact h
theorem Qc{w:World}{b o:Nat}{cs:Array Value}{t:TypeId}{fr:Nat × Nat}(h:w.heap[b]?=some (.cells cs t fr))(v:Value):
  (w.setCell ⟨b,o,none⟩ v).heap[b]?=some (.cells (cs.setIfInBounds o v) t fr):=by
 have hlt:=lt_of_block h;have h':w.heap[b]=.cells cs t fr:=by simpa [Array.getElem?_eq_getElem hlt] using h
 show(w.heap.modify b _)[b]?=_;rw[Array.getElem?_eq_getElem (by simpa using hlt),Array.getElem_modify_self,h'];rfl
theorem Qh{w:World}{b:Nat}{x:Obj}(h:w.heap[b]?=some x){p:Addr}(hp:b≠p.block)(v:Value):(w.setCell p v).heap[b]?=some x:=by rw[Below.heap_setCell _ _ _ _ hp];exact h
theorem V9{α β:Type}(f:α->List β)(k:Nat)(hf:∀x,(f x).length=k):∀(l:List α) (i r:Nat) (hi:i<l.length),r<k->(l.flatMap f)[i * k+r]?=(f l[i])[r]?
 | x :: l,0,r,_,hr=>by simp only[List.flatMap_cons,Nat.zero_mul,Nat.zero_add,List.getElem_cons_zero];rw[List.getElem?_append_left (by rw[hf];exact hr)]
 | x :: l,i+1,r,hi,hr=>by simp only[List.flatMap_cons,List.getElem_cons_succ];rw[List.getElem?_append_right (by rw[hf,Nat.add_mul];omega),hf,show(i+1) * k+r - k=i * k+r by rw[Nat.add_mul];omega];exact V9 f k hf l i r (by simpa using hi) hr
theorem Yr{α β:Type}(f:α->List β)(k:Nat)(hf:∀x,(f x).length=k):∀(l:List α),(l.flatMap f).length=l.length * k
 | []=>by simp
 | x :: l=>by rw[List.flatMap_cons,List.length_append,hf,Yr f k hf l,List.length_cons,Nat.add_mul];omega
def QaO(w:World)(a:Option Addr)(l:List Int):Prop:=
 ∀i,i<len l->∃b off,a=some ⟨b,off,none⟩/\w.cell? ⟨b,off+i,none⟩=some (.int .u64 (nth l i))
theorem QaO.nil(w:World)(a:Option Addr):QaO w a []:=λ i h=>by simp[len]at h
theorem QaO.below{w w':World}{a:Option Addr}{l:List Int}(h:QaO w a l)(hb:Below w.heap.size w w'):QaO w' a l:=λ i hi=>by obtain⟨b,off,rfl,hc⟩:=h i hi;exact⟨b,off,rfl,by rw[hb.cell (p:=⟨b,off+i,none⟩) (Ql hc)];exact hc⟩
theorem Qj{w b c:World}(h:Below w.heap.size w b)(k:Below b.heap.size b c):Below w.heap.size w c:=h.trans (k.mono h.size)
theorem Qf{w b:World}(h:Below w.heap.size w b)(o:Obj):Below w.heap.size w (b.alloc o):=h.alloc h.size o
theorem Zy{w b:World}(h:Below w.heap.size w b):Below w.heap.size w b.drew:=h.drew
theorem Zg{w b:World}(h:Below w.heap.size w b)(n:Nat):Below w.heap.size w (b.drewN n):=QbA h n
theorem Ji{w b:World}(h:Below w.heap.size w b){p:Addr}(hp:w.heap.size<=p.block)(u:Value):Below w.heap.size w (b.setCell p u):=h.setCell hp u
def Qr2(w w':World):Prop:=∃n,w'=w.drewN n
theorem Qr2.refl(w:World):Qr2 w w:=⟨0,rfl⟩
theorem Qr2.drewN{w w':World}(h:Qr2 w w')(n:Nat):Qr2 w (w'.drewN n):=by obtain⟨m,rfl⟩:=h;exact⟨m+n,by rw[World.drewN_drewN]⟩
theorem Qr2.below{w w':World}(h:Qr2 w w')(B:Nat):Below B w w':=by obtain⟨m,rfl⟩:=h;exact QbA (Below.refl _ _) m
theorem Qbh:(Tryz.prog.info? 23).map (λ i=>(i.zero,i.size,i.bytes))=some (some (.int .u64 0),1,8):=by kernel_rfl
theorem Qq{w b c:World}{row:Option Nat}(h:Below w.heap.size w b)(hg:b.grownBy c row)(hr:∀k,row=some k->w.heap.size<=k):Below w.heap.size w c:=
 h.grown hg h.size hr
theorem QbP{w w':World}(h:Below w.heap.size w w'):w.grownBy w' none:=⟨h.os,h.tape,h.output,h.size,λ i hi _=>h.block i hi⟩
theorem Qs{w w':World}{base e size n:Nat}{v:Value}{xs:List Value}(h:w.ownsRow base e size v n xs)(hb:Below w.heap.size w w'):w'.ownsRow base e size v n xs:=
 h.kept (QbP hb) (by cases v.ownBlock <;> simp)
theorem QbU{w:World}{b1 b2 e1 e2 s1 s2 n1 n2:Nat}{v1 v2:Value}{x1 x2:List Value}(h1:w.ownsRow b1 e1 s1 v1 n1 x1)(h2:w.ownsRow b2 e2 s2 v2 n2 x2)(he:e1≠e2):v1.ownBlock=none \/ v1.ownBlock≠v2.ownBlock:=by
 obtain⟨-,h1⟩:=h1;obtain⟨-,h2⟩:=h2
 rcases h1 with⟨rfl,-⟩ | ⟨g,cap,cur,rfl,-,hh,-⟩
 ·exact .inl rfl
 ·right
  rcases h2 with⟨rfl,-⟩ | ⟨g',cap',cur',rfl,-,hh',-⟩
  ·intro h;cases h
  ·intro h
   have e:g=g':=by simpa [Value.ownBlock] using h
   subst e;rw[hh]at hh'
   cases hh'
   exact he rfl
def U8s(w:World)(a:Option Addr)(l:List Int):Prop:=
 ∀i,i<len l->∃b off,a=some ⟨b,off,none⟩/\w.cell? ⟨b,off+i,none⟩=some (.int .u8 (nth l i))
theorem U8s.below{w w':World}{a:Option Addr}{l:List Int}(h:U8s w a l)(hb:Below w.heap.size w w'):U8s w' a l:=λ i hi=>by obtain⟨b,off,rfl,hc⟩:=h i hi;exact⟨b,off,rfl,by rw[hb.cell (p:=⟨b,off+i,none⟩) (Ql hc)];exact hc⟩
section
def Ext(w w':World):Prop:=Below w.heap.size w w'
theorem Zj:∀w,Ext w w:=λ _=>Below.refl _ _
theorem QmZ:∀a b c,Ext a b->Ext b c->Ext a c:=λ _ _ _ h k=>Qj h k
theorem Zo{w w1:World}(h:Ext w w1){b:Nat}{x:Obj}(hc:w.heap[b]?=some x):w1.heap[b]?=some x:=(h.block b (lt_of_block hc)).trans hc
def Xe(row:Option Nat)(w w':World):Prop:=w.grownBy w' row
theorem Y4(row:Option Nat):∀w,Xe row w w:=λ _=>⟨rfl,rfl,rfl,Nat.le_refl _,λ _ _ _=>rfl⟩
theorem Q7(row:Option Nat):∀a b c,Xe row a b->Xe row b c->Xe row a c:=λ _ _ _ h k=>
 ⟨k.os.trans h.os,k.tape.trans h.tape,k.output.trans h.output,Nat.le_trans h.size k.size,λ i hi hn=>(k.block i (Nat.lt_of_lt_of_le hi h.size) hn).trans (h.block i hi hn)⟩
theorem Qw{row:Option Nat}{w w1:World}(h:Xe row w w1){b:Nat}(hn:some b≠row){x:Obj}(hc:w.heap[b]?=some x):w1.heap[b]?=some x:=(h.block b (lt_of_block hc) hn).trans hc
theorem Qb{row:Option Nat}{w w1:World}(h:Xe row w.drew w1){b o:Nat}(hn:some b≠row){v:Value}(hc:w.cell? ⟨b,o,none⟩=some v):w1.cell? ⟨b,o,none⟩=some v:=by have e:w1.cell? ⟨b,o,none⟩=w.cell? ⟨b,o,none⟩:=World.cell?_of_block (w:=w) (h.block b (Ql hc) hn);rw[e];exact hc
theorem Qf4(row:Option Nat)(w:World)(o:Obj):Xe row w (w.alloc o):=World.grownBy_alloc w o row
theorem Zn{P:Program}{o:Oper}{a:Act}{w w':World}{v:Value}{K:Act->World->Prop}{Q:Exit->Act->World->Prop}(h:(execOp a.eval o).run P w=.ok (.value v) w')(hK:K (a.put o.dst v) w'):o.wp P a w K Q:=by unfold Oper.wp;rw[h];exact hK
def Es(sp:Nat)(vo:Option Nat)(j:Nat)(w w':World):Prop:=if j=sp then Xe vo w w' else Ext w w'
theorem QdK{vo:Option Nat}{w w':World}(h:Ext w w'):Xe vo w w':=⟨h.os,h.tape,h.output,h.size,λ i hi _=>h.block i hi⟩
theorem QsA{sp j:Nat}{vo:Option Nat}{w w':World}(h:Es sp vo j w w'):Xe vo w w':=by
 unfold Es at h;split at h
 ·exact h
 ·exact QdK h
theorem Qo{sp j:Nat}{vo:Option Nat}{w w':World}(h:Ext w w'):Es sp vo j w w':=by
 unfold Es;split
 ·exact QdK h
 ·exact h
theorem QcH{sp:Nat}{vo:Option Nat}{w w':World}(h:Xe vo w w'):Es sp vo sp w w':=by unfold Es;rw[if_pos rfl];exact h
def J7(o:Oper)(a:Act):Value:=match o.dst with | some d=>a.eval (.tmp d) | none=>undef
def Kg(o:Oper)(v:Value):Value:=match o.dst with | some _=>v | none=>undef
def Yg(ops:List Oper):List Nat:=ops.filterMap (·.dst)
def Uf(ops:List Oper)(n:Nat):Bool:=
 (ops.zipIdx.all fun (o,i)=>o.after.all λ e=>!Region.binds .any e || decide (e.on<i)) && decide (Yg ops).Nodup && (Yg ops).all (λ d=>decide (d<n))
section
variable (P : Program) (ops : List Oper) (a0 : Act) (w0 : World) (sp : Nat) (vo : Option Nat) (Φ : Nat → Value → World → Prop) (Q : Exit → Act → World → Prop)
def QaH(hd:Nat)(a:Act):Prop:=a.defers=a0.defers/\a.tmps.size=a0.tmps.size/\∀t,(Yg (ops.take hd)).contains t=false->a.eval (.tmp t)=a0.eval (.tmp t)
def QiB(a:Act)(w:World):List Edge->Prop
 | []=>True
 | e :: r=>(Region.binds .any e=true->∀o,ops[e.on]?=some o->Φ e.on (J7 o a) w)/\QiB a w r
def QaD(hd:Nat)(i:Nat)(o:Oper):Prop:=∀a w,Xe vo w0 w->(i=sp->Ext w0 w)->QaH ops a0 hd a->QiB ops Φ a w o.after.toList->
 if Region.wanted o (yielded ops.toArray a.tmps)then o.wp P a w (λ a' w'=>∃v,a'=a.put o.dst v/\Es sp vo i w w'/\Φ i (Kg o v) w') Q else Φ i undef w
structure Qr9(n:Nat)(listed:Array Bool)(a:Act)(w:World):Prop where
 head:HeadInv .any ops.toArray n listed
 ext:Xe vo w0 w
 ext0:listed.getD sp true=false->Ext w0 w
 outer:QaH ops a0 n a
 done:∀(i:Nat) o,ops[i]?=some o->listed.getD i true=true->Φ i (J7 o a) w
variable {P ops a0 w0 sp vo Φ Q}
theorem Qg1{a:Act}{w:World}:∀{l:List Edge},(∀e ∈ l,Region.binds .any e=true->∀o,ops[e.on]?=some o->Φ e.on (J7 o a) w)->QiB ops Φ a w l
 | [],_=>trivial
 | e :: r,h=>⟨h e (List.mem_cons_self ..),Qg1 λ e' he'=>h e' (List.mem_cons_of_mem _ he')⟩
theorem Qj9{ops:List Oper}(hn:(Yg ops).Nodup){i j:Nat}(hij:i≠j){oi oj:Oper}{d:Nat}(hi:ops[i]?=some oi)(hj:ops[j]?=some oj)(h1:oi.dst=some d)(h2:oj.dst=some d):False:=by
 induction ops generalizing i j with
 | nil=>simp at hi
 | cons o r ih=>
  unfold Yg at hn;rw[List.filterMap_cons]at hn;have hr:(Yg r).Nodup:=by
   unfold Yg
   cases ho:o.dst with
   | none=>rw[ho]at hn;exact hn
   | some d'=>rw[ho]at hn;exact(List.nodup_cons.1 hn).2
  have head:∀(k:Nat) ok,r[k]?=some ok->o.dst=some d->ok.dst=some d->False:=λ k ok hk ho hok=>by rw[ho]at hn;exact(List.nodup_cons.1 hn).1 (List.mem_filterMap.2 ⟨ok,List.mem_of_getElem? hk,hok⟩)
  cases i with
  | zero=>
   cases j with
   | zero=>exact hij rfl
   | succ j=>
    simp at hi hj;subst hi;exact head j oj hj h1 h2
  | succ i=>
   cases j with
   | zero=>
    simp at hi hj;subst hj;exact head i oi hi h2 h1
   | succ j=>exact ih hr (λ e=>hij (congrArg (·+1) e)) (by simpa using hi) (by simpa using hj)
theorem Yn{a:Act}{d t:Nat}{v:Value}(h:t≠d):(a.put (some d) v).eval (.tmp t)=a.eval (.tmp t):=by show(a.tmps.setIfInBounds d v).getD t undef=a.tmps.getD t undef;simp[Array.getD_eq_getD_getElem?,Array.getElem?_setIfInBounds_ne (Ne.symm h)]
theorem Y7{a:Act}{d:Nat}{v:Value}(h:d<a.tmps.size):(a.put (some d) v).eval (.tmp d)=v:=by show(a.tmps.setIfInBounds d v).getD d undef=v;simp[Array.getD_eq_getD_getElem?,h]
theorem Ym(hB:Uf ops a0.tmps.size=true){listed:Array Bool}(hs:listed.size=ops.length)(hr:Region.ready .any ops.toArray listed=[]):
  ∀i,i<ops.length->listed.getD i true=true:=by
 intro i
 induction i using Nat.strongRecOn with
 | _ i ih=>
  intro hi
  cases h:listed.getD i true with
  | true=>rfl
  | false=>
   exfalso
   have hm:i ∈ Region.ready .any ops.toArray listed:=by
    refine mem_ready.2 ⟨h,ops[i],by simp[hi],λ e he hb=>?_⟩;have h1:(ops.zipIdx.all fun (o,i)=>o.after.all λ e=>!Region.binds .any e || decide (e.on<i))=true:=by unfold Uf at hB;simp only[Bool.and_eq_true]at hB;exact hB.1.1
    have h2:=List.all_eq_true.1 h1 (ops[i],i) (by rw[List.mem_zipIdx_iff_getElem?];simp[hi]);have h3:=Array.all_eq_true'.1 h2 e he;simp only[hb,Bool.not_true,Bool.false_or,decide_eq_true_eq]at h3;have h4:=ih e.on h3 (by omega);have h5:e.on<listed.size:=by omega
    simp[h5]at h4 ⊢;exact h4
   rw[hr]at hm;cases hm
def Qdk(ops:List Oper)(Φ:Nat->Value->World->Prop)(a:Act)(w:World):Nat->Nat->Prop
 | _,0=>True
 | i,n+1=>(∀o,ops[i]?=some o->Φ i (J7 o a) w)/\Qdk ops Φ a w (i+1) n
theorem Un{a:Act}{w:World}:∀(n i:Nat),(∀j,i<=j->j<i+n->∀o,ops[j]?=some o->Φ j (J7 o a) w)->Qdk ops Φ a w i n
 | 0,_,_=>trivial
 | n+1,i,h=>⟨h i (Nat.le_refl _) (by omega),Un n (i+1) λ j h1 h2=>h j (by omega) (by omega)⟩
theorem Qr9.next{n:Nat}(hB:Uf ops a0.tmps.size=true)
  (hmono:∀i j v w w',i≠j->Xe vo w0 w->Es sp vo j w w'->Φ i v w->Φ i v w') {listed:Array Bool} {a:Act} {w:World} (inv:Qr9 ops a0 w0 sp vo Φ n listed a w)
  {i:Nat} {o:Oper} (hi:i ∈ Region.ready .any ops.toArray listed) (hin:i<n) (ho':ops[i]?=some o) {v:Value} {w':World} (he:Es sp vo i w w') (hv:Φ i (Kg o v) w'):
  Qr9 ops a0 w0 sp vo Φ n (listed.setIfInBounds i true) (a.put o.dst v) w':=by
 have hnd:(Yg ops).Nodup:=by unfold Uf at hB;simp only[Bool.and_eq_true,decide_eq_true_eq]at hB;exact hB.1.2
 have hdl:∀d ∈ Yg ops,d<a0.tmps.size:=by unfold Uf at hB;simp only[Bool.and_eq_true]at hB;intro d hd;simpa using List.all_eq_true.1 hB.2 d hd
 refine⟨inv.head.set hi hin,Q7 _ _ _ _ inv.ext (QsA he),λ hl=>?_,?_,?_⟩
 ·by_cases his:i=sp
  ·exfalso
   subst his;obtain⟨hun,o',ho,_⟩:=mem_ready.1 hi;have hil:i<listed.size:=by rw[inv.head.size];exact(Array.getElem?_eq_some_iff.1 ho).1
   simp[hil]at hl
  ·rw[getD_set_ne true his]at hl
   unfold Es at he;rw[if_neg his]at he;exact QmZ _ _ _ (inv.ext0 hl) he
 ·obtain⟨h1,h2,h3⟩:=inv.outer
  cases hd:o.dst with
  | none=>exact⟨h1,h2,h3⟩
  | some d=>
   refine⟨h1,by simp[Act.put,h2],λ t ht=>?_⟩;have hmem:d ∈ Yg (ops.take n):=List.mem_filterMap.2 ⟨o,List.mem_of_getElem? (i:=i) (by rw[List.getElem?_take,if_pos hin];exact ho'),hd⟩;rw[Yn (by rintro rfl;simp at ht;exact ht hmem)];exact h3 t ht
 ·intro j oj hoj hl
  by_cases hij:j=i
  ·subst hij
   have:oj=o:=Option.some.inj (hoj.symm.trans ho');subst this;unfold J7;unfold Kg at hv
   cases hd:oj.dst with
   | none=>simpa [hd] using hv
   | some d=>
    simp only[hd]at hv;have hmem:d ∈ Yg ops:=List.mem_filterMap.2 ⟨oj,List.mem_of_getElem? ho',hd⟩;simp only;rw[Y7 (by rw[inv.outer.2.1];exact hdl d hmem)];exact hv
  ·rw[getD_set_ne true (Ne.symm hij)]at hl
   have h1:=hmono j i _ w w' hij inv.ext he (inv.done j oj hoj hl);unfold J7 at h1 ⊢
   cases hdj:oj.dst with
   | none=>first | exact h1 | simpa [hdj] using h1
   | some d=>
    try simp only[hdj]at h1 ⊢
    cases hdo:o.dst with
    | none=>exact h1
    | some d'=>
     have hne:d≠d':=by rintro rfl;exact Qj9 hnd (Ne.symm hij) ho' hoj hdo hdj
     rw[Yn hne];exact h1
theorem Qdg{listed:Array Bool}{i:Nat}(hil:i<listed.size)(hun:listed.getD i true=false):∀L:List Nat,L.Nodup->i ∈ L->
  (L.filter (λ j=>!(listed.setIfInBounds i true).getD j true)).length+1=(L.filter (λ j=>!listed.getD j true)).length:=by
 intro L
 induction L with
 | nil=>intro _ h;cases h
 | cons x L ihL=>
  intro hnd hm;rw[List.nodup_cons]at hnd;simp only[List.filter_cons]
  by_cases hx:x=i
  ·subst hx
   have e1:(listed.setIfInBounds x true).getD x true=true:=by simp[hil]
   have e2:L.filter (λ j=>!(listed.setIfInBounds x true).getD j true)=L.filter (λ j=>!listed.getD j true):=by apply List.filter_congr;intro y hy;rw[getD_set_ne true (by rintro rfl;exact hnd.1 hy)]
   simp only[e1,hun,e2];simp
  ·have hm':i ∈ L:=by
    rcases List.mem_cons.1 hm with h | h
    ·exact absurd h.symm hx
    ·exact h
   have h2:=ihL hnd.2 hm';rw[getD_set_ne true (Ne.symm hx)]
   split <;> (try simp only[List.length_cons]) <;> omega
def Qcy(n N:Nat):Array Bool:=((List.range N).map (λ i=>decide (i<n))).toArray
def QcW(ops:List Oper)(n:Nat):Bool:=
 decide (n<ops.length) && Region.sinkB .any ops.toArray n && Region.chainB .any ops.toArray n && Region.seqB .any ops.toArray (ops.length - n) n (Qcy n ops.length)
theorem QfU{n g:Nat}(hB:Uf ops a0.tmps.size=true)
  (hmono:∀i j v w w',i≠j->Xe vo w0 w->Es sp vo j w w'->Φ i v w->Φ i v w') (hnN:n<=ops.length)
  (hstep:∀(i:Nat) o,i<n->ops[i]?=some o->QaD P ops a0 w0 sp vo Φ Q n i o)
  (hlate:∀listed,HeadInv .any ops.toArray n listed->(∃i,i<n/\listed.getD i true=false)->Region.ready .any ops.toArray listed≠[]/\∀t ∈ Region.ready .any ops.toArray listed,t<n)
  (hend:∀listed a w,Qr9 ops a0 w0 sp vo Φ n listed a w->(∀i,i<n->listed.getD i true=true)->wpAny P .any ops.toArray Q g listed a w):
  ∀(fuel:Nat) (listed:Array Bool) (a:Act) (w:World),((List.range n).filter (λ i=>!listed.getD i true)).length=fuel->Qr9 ops a0 w0 sp vo Φ n listed a w->
   wpAny P .any ops.toArray Q (fuel+g) listed a w:=by
 intro fuel
 induction fuel with
 | zero=>
  intro listed a w hf inv;rw[Nat.zero_add];refine hend listed a w inv λ i hi=>?_
  cases h:listed.getD i true with
  | true=>rfl
  | false=>
   have:i ∈ (List.range n).filter (λ i=>!listed.getD i true):=List.mem_filter.2 ⟨List.mem_range.2 hi,by rw[h];rfl⟩;rw[List.eq_nil_of_length_eq_zero hf]at this;cases this
 | succ fuel ih=>
  intro listed a w hf inv;rw[show fuel+1+g=(fuel+g)+1 by omega];have hex:∃i,i<n/\listed.getD i true=false:=by
   cases hl:(List.range n).filter (λ i=>!listed.getD i true)with
   | nil=>rw[hl]at hf;cases hf
   | cons x L=>
    have:x ∈ (List.range n).filter (λ i=>!listed.getD i true):=by rw[hl];exact List.mem_cons_self ..
    obtain⟨h1,h2⟩:=List.mem_filter.1 this;exact⟨x,List.mem_range.1 h1,by simpa using h2⟩
  obtain⟨hne,hlt⟩:=hlate listed inv.head hex;refine⟨λ hr=>absurd hr hne,λ i hi=>?_⟩;have hin:=hlt i hi;obtain⟨hun,o,ho,hall⟩:=mem_ready.1 hi;have ho':ops[i]?=some o:=by simpa using ho
  have hls:listed.size=ops.length:=by rw[inv.head.size];simp
  have hdep:QiB ops Φ a w o.after.toList:=Qg1 λ e he hb oj hoj=>by
   have h1:=hall e (by simpa using he) hb;refine inv.done e.on oj hoj ?_;have h2:e.on<listed.size:=by
    rcases Nat.lt_or_ge e.on listed.size with h | h
    ·exact h
    ·simp[Array.getElem?_eq_none h]at h1
   simp[h2]at h1 ⊢;exact h1
  have hst:=hstep i o hin ho' a w inv.ext (λ e=>inv.ext0 (by rw[<-e];exact hun)) inv.outer hdep;have next:∀v w',Es sp vo i w w'->Φ i (Kg o v) w'->wpAny P .any ops.toArray Q (fuel+g) (listed.setIfInBounds i true) (a.put o.dst v) w':=by intro v w' he hv;refine ih _ _ _ ?_ (inv.next hB hmono hi hin ho' he hv);have:=Qdg (listed:=listed) (i:=i) (by omega) hun _ List.nodup_range (List.mem_range.2 hin);omega
  unfold wpOp;rw[ho]
  dsimp only
  by_cases hw:Region.wanted o (yielded ops.toArray a.tmps)=true
  ·rw[if_pos hw]at hst ⊢
   left
   refine Oper.wp_mono (λ a' w' h=>?_) hst;obtain⟨v,rfl,he,hv⟩:=h;exact next v w' he hv
  ·rw[if_neg hw]at hst ⊢
   refine next undef w (Qo (Zj w)) ?_;have e:Kg o undef=undef:=by unfold Kg;cases o.dst <;> rfl
   rw[e];exact hst
end
section
variable {P : Program} {Q : Exit → Act → World → Prop} {a : Act} {w : World} {l : List Oper} {vo : Option Nat} {Φ : Nat → Value → World → Prop}
theorem QcO{n sp:Nat}(hn:n<=l.length):Qr9 l a w.drew sp vo Φ n (Array.replicate l.length false) a w.drew:=
 ⟨⟨by simp,λ j oj _ hl=>(by rw[getD_replicate_false]at hl;cases hl),λ t _ ht=>getD_in (by simpa using ht) (getD_replicate_false _ _)⟩,Y4 _ _,λ _=>Zj _,⟨rfl,rfl,λ _ _=>rfl⟩,
  λ i o ho hl=>(by
   have hi:=(List.getElem?_eq_some_iff.1 ho).1;rw[getD_in (by simpa using hi) (getD_replicate_false _ _)]at hl;cases hl)⟩
theorem Qam(n N:Nat)(h:n<=N):((List.range n).filter (λ i=>!(Array.replicate N false).getD i true)).length=n:=by
 have e:(List.range n).filter (λ i=>!(Array.replicate N false).getD i true)=List.range n:=by rw[List.filter_eq_self];intro i hi;have hi':=List.mem_range.1 hi;rw[getD_in (by simp;omega) (getD_replicate_false _ _)];rfl
 rw[e,List.length_range]
theorem Zp{id:Nat}(sp:Nat)(vo:Option Nat)(Φ:Nat->Value->World->Prop)(hm:P.follows .mixedOrders=true)(hB:Uf l a.tmps.size=true)
  (hmono:∀i j v w1 w',i≠j->Xe vo w.drew w1->Es sp vo j w1 w'->Φ i v w1->Φ i v w')
  (hstep:∀(i:Nat) o,i<l.length->l[i]?=some o->QaD P l a w.drew sp vo Φ Q l.length i o)
  (hend:∀a' w',Xe vo w.drew w'->QaH l a l.length a'->Qdk l Φ a' w' 0 l.length->Q .normal a' w'):(Code.region id l.toArray true).wp P Q a w:=by
 refine wp_region_any hm ?_;have H:=QfU (P:=P) (ops:=l) (a0:=a) (w0:=w.drew) (sp:=sp) (vo:=vo) (Φ:=Φ) (Q:=Q) (n:=l.length) (g:=0) hB hmono (Nat.le_refl _) hstep
  (λ listed inv ⟨i,hi,hun⟩=>⟨λ hr=>(by
    have:=Ym (a0:=a) hB (by rw[inv.size];simp) hr i hi;rw[hun]at this;cases this),λ t ht=>(by
    obtain⟨_,o,ho,_⟩:=mem_ready.1 ht;have:=(Array.getElem?_eq_some_iff.1 ho).1;simpa using this)⟩)
  (λ listed a' w' inv hall=>⟨(by
    rw[List.eq_nil_iff_forall_not_mem];intro i hi;obtain⟨h1,o,ho,_⟩:=mem_ready.1 hi;have:=hall i (by have:=(Array.getElem?_eq_some_iff.1 ho).1;simpa using this);rw[h1]at this;cases this),hend a' w' inv.ext inv.outer (Un _ _ λ j _ h2 o ho=>inv.done j o ho (hall j (by omega)))⟩)
  l.length (Array.replicate l.length false) a w.drew (Qam _ _ (Nat.le_refl _)) (QcO (Nat.le_refl _))
 simpa using H
theorem QbF{n N:Nat}{listed:Array Bool}(hs:listed.size=N)(h1:∀i,i<n->listed.getD i true=true)(h2:∀i,n<=i->i<N->listed.getD i true=false)(hn:n<=N):listed=Qcy n N:=by
 apply Array.ext
 ·simp[Qcy,hs]
 ·intro i h3 h4
  have h5:listed.getD i true=listed[i]:=by simp[h3]
  have e:(Qcy n N)[i]=decide (i<n):=by simp[Qcy]
  rw[e,<-h5]
  rcases Nat.lt_or_ge i n with h | h
  ·rw[h1 i h];simp[h]
  ·rw[h2 i h (by omega)];simp;omega
theorem Qp{id:Nat}(n:Nat)(sp:Nat)(vo:Option Nat)(Φ:Nat->Value->World->Prop)(hm:P.follows .mixedOrders=true)(hB:Uf l a.tmps.size=true)(hT:QcW l n=true)
  (hmono:∀i j v w1 w',i≠j->Xe vo w.drew w1->Es sp vo j w1 w'->Φ i v w1->Φ i v w')
  (hstep:∀(i:Nat) o,i<n->l[i]?=some o->QaD P l a w.drew sp vo Φ Q n i o)
  (hend:∀a' w',Xe vo w.drew w'->QaH l a n a'->Qdk l Φ a' w' 0 n->wpList P l.toArray Q (l.drop n) a' w'):(Code.region id l.toArray true).wp P Q a w:=by
 unfold QcW at hT;simp only[Bool.and_eq_true,decide_eq_true_eq]at hT;obtain⟨⟨⟨hn,hs⟩,hc⟩,hseq⟩:=hT;refine wp_region_any hm ?_;have H:=QfU (P:=P) (ops:=l) (a0:=a) (w0:=w.drew) (sp:=sp) (vo:=vo) (Φ:=Φ) (Q:=Q) (n:=n) (g:=l.length - n) hB hmono (by omega) hstep
  (λ listed inv ⟨i,hi,hun⟩=>⟨λ hr=>(by
    have:=Ym (a0:=a) hB (by rw[inv.size];simp) hr i (by omega);rw[hun]at this;cases this),λ t ht=>(by
    rcases Nat.lt_or_ge t n with h | h
    ·exact h
    ·exact absurd ht (tail_waits hs hc (by simpa using hn) inv (n - i) i rfl hi hun t h))⟩)
  (λ listed a' w' inv hall=>(by
    have e:=QbF (n:=n) (N:=l.length) (by rw[inv.head.size];simp) hall (λ i h1 h2=>inv.head.tail i h1 (by simpa using h2)) (by omega);have h:=wpAny_of_seq (P:=P) (md:=.any) (Q':=Q) (ops:=l.toArray) (l.drop n) n listed a' w' (λ j=>by simp[List.getElem?_drop]) (by rw[List.length_drop,e];exact hseq)
     (hend a' w' inv.ext inv.outer (Un _ _ λ j _ h2 o ho=>inv.done j o ho (hall j (by omega))))
    rwa [List.length_drop]at h))
  n (Array.replicate l.length false) a w.drew (Qam _ _ (by omega)) (QcO (by omega))
 rw[show n+(l.length - n)=l.length by omega]at H
 simpa using H
end
theorem Xd(a:Act)(t:Nat):a.eval (.tmp t)=a.tmps[t]?.getD undef:=by show a.tmps.getD t undef=_;rw[Array.getD_eq_getD_getElem?]
theorem QEf (a : Act) (t : Nat) (v : Value) (h : a.eval (.tmp t) = v) : a.tmps[t]?.getD undef = v := (Xd a t).symm.trans h
theorem Zb{P:Program}{o:Oper}{a:Act}{w:World}{v:Value}{f:FuncId}{args:Array Value}{K:Act->World->Prop}{Q:Exit->Act->World->Prop}(h:(execOp a.eval o).run P w=.ok (.enter f args) w)
  (hc:Calls P f args w (λ e w'=>e=.returned v/\Below w.heap.size w w')) (hK:∀w',Below w.heap.size w w'->K (a.put o.dst v) w'):o.wp P a w K Q:=by
 unfold Oper.wp;rw[h];exact hc.mono λ e w' ⟨he,hb⟩=>by subst he;exact hK w' hb
theorem Qe1{P:Program}{o:Oper}{a:Act}{w:World}{chain:List PanicEntry}{f:FuncId}{args:Array Value}{K:Act->World->Prop}{Q:Exit->Act->World->Prop}(h:(execOp a.eval o).run P w=.ok (.enter f args) w)
  (hc:Calls P f args w (λ e w'=>e=.panicked chain/\Below w.heap.size w w')) (hK:∀w',Below w.heap.size w w'->Q (.panic chain) a w'):o.wp P a w K Q:=by
 unfold Oper.wp;rw[h];exact hc.mono λ e w' ⟨he,hb⟩=>by subst he;exact hK w' hb
theorem Yb{w w':World}(h:Xe none w w'):Below w.heap.size w w':=⟨h.os,h.tape,h.output,h.size,λ i hi=>h.block i hi (by simp)⟩
theorem Q0{w w1:World}(h:Xe none w.drew w1):Below w.heap.size w w1:=Qj (Zy (Below.refl _ _)) (Yb h)
def Kx(L:List (Value->World->Prop))(i:Nat):Value->World->Prop:=L.getD i (λ _ _=>True)
def Qgm(sp:Nat)(vo:Option Nat):Nat->List (Value->World->Prop)->Prop
 | _,[]=>True
 | i,φ :: r=>((∀v w1 w',Ext w1 w'->φ v w1->φ v w')/\(i≠sp->∀v w1 w',Xe vo w1 w'->φ v w1->φ v w'))/\Qgm sp vo (i+1) r
theorem Qne{sp:Nat}{vo:Option Nat}:∀{L:List (Value->World->Prop)} {k:Nat},Qgm sp vo k L->∀i v w1 w',
  (Ext w1 w'->L.getD i (λ _ _=>True) v w1->L.getD i (λ _ _=>True) v w')/\(k+i≠sp->Xe vo w1 w'->L.getD i (λ _ _=>True) v w1->L.getD i (λ _ _=>True) v w')
 | [],_,_,_,_,_,_=>by simp
 | φ :: r,k,h,0,v,w1,w'=>⟨h.1.1 v w1 w',λ hn=>h.1.2 hn v w1 w'⟩
 | φ :: r,k,h,i+1,v,w1,w'=>by have:=Qne (L:=r) h.2 i v w1 w';rw[Nat.add_assoc,Nat.add_comm 1 i]at this;exact this
theorem Q9{sp:Nat}{vo:Option Nat}{w0:World}{L:List (Value->World->Prop)}(h:Qgm sp vo 0 L):∀i j v w1 w',i≠j->Xe vo w0 w1->Es sp vo j w1 w'->Kx L i v w1->Kx L i v w':=by
 intro i j v w1 w' hij _ he hp;have hh:=Qne h i v w1 w';rw[Nat.zero_add]at hh;unfold Es at he
 split at he
 ·rename_i hj;exact hh.2 (by rw[<-hj];exact hij) he hp
 ·exact hh.1 he hp
theorem Qd{sp:Nat}{vo:Option Nat}{i:Nat}{f:Value->Prop}:(∀v w1 w',Ext w1 w'->(λ v (_:World)=>f v) v w1->(λ v (_:World)=>f v) v w')/\(i≠sp->∀v w1 w',Xe vo w1 w'->(λ v (_:World)=>f v) v w1->(λ v (_:World)=>f v) v w'):=
 ⟨λ _ _ _ _ h=>h,λ _ _ _ _ _ h=>h⟩
def Qfa(P:Program)(ops:List Oper)(a0:Act)(w0:World)(sp:Nat)(vo:Option Nat)(Φ:Nat->Value->World->Prop)(Q:Exit->Act->World->Prop)(hd:Nat):Nat->Nat->List Oper->Prop
 | _,0,_=>True
 | _,_+1,[]=>True
 | i,n+1,o :: r=>QaD P ops a0 w0 sp vo Φ Q hd i o/\Qfa P ops a0 w0 sp vo Φ Q hd (i+1) n r
theorem Qge{P:Program}{ops:List Oper}{a0:Act}{w0:World}{sp:Nat}{vo:Option Nat}{Φ:Nat->Value->World->Prop}{Q:Exit->Act->World->Prop}{hd:Nat}:
  ∀(n k:Nat) (r:List Oper),Qfa P ops a0 w0 sp vo Φ Q hd k n r->∀(i:Nat) o,i<n->r[i]?=some o->QaD P ops a0 w0 sp vo Φ Q hd (k+i) o
 | 0,_,_,_,_,_,h,_=>by omega
 | _+1,_,[],_,_,_,_,h=>by simp at h
 | n+1,k,x :: r,h,0,o,_,ho=>by simp at ho;subst ho;exact h.1
 | n+1,k,x :: r,h,i+1,o,hi,ho=>by
  have:=Qge n (k+1) r h.2 i o (by omega) (by simpa using ho)
  rwa [Nat.add_assoc,Nat.add_comm 1 i]at this
theorem Q6{P:Program}{ops:List Oper}{a0:Act}{w0:World}{sp:Nat}{vo:Option Nat}{Φ:Nat->Value->World->Prop}{Q:Exit->Act->World->Prop}{hd:Nat}(n:Nat)
  (h:Qfa P ops a0 w0 sp vo Φ Q hd 0 n ops):∀(i:Nat) o,i<n->ops[i]?=some o->QaD P ops a0 w0 sp vo Φ Q hd i o:=λ i o hi ho=>by
 have:=Qge n 0 ops h i o hi ho
 rwa [Nat.zero_add]at this
section
variable {P : Program} {ops : List Oper} {a0 : Act} {w0 : World} {sp : Nat} {vo : Option Nat} {Φ : Nat → Value → World → Prop} {Q : Exit → Act → World → Prop} {hd : Nat} {i : Nat} {o : Oper}
theorem Qu(h:∀a w1,Xe vo w0 w1->(i=sp->Ext w0 w1)->QaH ops a0 hd a->QiB ops Φ a w1 o.after.toList->
  Region.wanted o (yielded ops.toArray a.tmps)=true/\o.wp P a w1 (λ a' w'=>∃v,a'=a.put o.dst v/\Es sp vo i w1 w'/\Φ i (Kg o v) w') Q):QaD P ops a0 w0 sp vo Φ Q hd i o:=λ a w1 hE hS hO hD=>by
 obtain⟨h1,h2⟩:=h a w1 hE hS hO hD;rw[if_pos h1];exact h2
theorem Qi{v:Value}(h:∀a w1,Xe vo w0 w1->(i=sp->Ext w0 w1)->QaH ops a0 hd a->QiB ops Φ a w1 o.after.toList->
  Region.wanted o (yielded ops.toArray a.tmps)=true/\(execOp a.eval o).run P w1=.ok (.value v) w1) (hφ:∀w1,Φ i (Kg o v) w1):QaD P ops a0 w0 sp vo Φ Q hd i o:=λ a w1 hE hS hO hD=>by
 obtain⟨h1,h2⟩:=h a w1 hE hS hO hD;rw[if_pos h1];unfold Oper.wp;rw[h2];exact⟨v,rfl,Qo (Zj w1),hφ w1⟩
theorem QoJ(h:∀a w1,Xe vo w0 w1->(i=sp->Ext w0 w1)->QaH ops a0 hd a->QiB ops Φ a w1 o.after.toList->Region.wanted o (yielded ops.toArray a.tmps)=false)(hφ:∀w1,Φ i undef w1):QaD P ops a0 w0 sp vo Φ Q hd i o:=λ a w1 hE hS hO hD=>by rw[if_neg (by rw[h a w1 hE hS hO hD];exact Bool.false_ne_true)];exact hφ w1
theorem QlB{ops:Array Oper}{j d:Nat}{oj:Oper}{a:Act}{b:Bool}(hj:ops[j]?=some oj)(hd:oj.dst=some d)(hv:a.eval (.tmp d)=.bool b):yielded ops a.tmps j=some b:=by
 have h:a.tmps.getD d undef=.bool b:=hv;unfold yielded;rw[hj];simp only[Option.bind_some,hd]
 cases ht:a.tmps[d]? with
 | none=>
  rw[Array.getD_eq_getD_getElem?,ht]at h
  cases h
 | some x=>
  rw[Array.getD_eq_getD_getElem?,ht]at h;simp at h;subst h;rfl
theorem Qhw{l:List Oper}{o oj:Oper}{j d:Nat}{want b:Bool}{a:Act}(hg:o.guard=some (j,want))(hj:l.toArray[j]?=some oj)(hd:oj.dst=some d)(hv:a.eval (.tmp d)=.bool b):
  Region.wanted o (yielded l.toArray a.tmps)=(b == want):=by
 unfold Region.wanted;rw[hg];simp only[QlB hj hd hv]
 cases b <;> cases want <;> rfl
theorem wY{l:List Oper}{o oj:Oper}{j d:Nat}{b:Bool}{a:Act}(hg:o.guard=some (j,b))(hj:l.toArray[j]?=some oj)(hd:oj.dst=some d)(hv:a.eval (.tmp d)=.bool b):
  Region.wanted o (yielded l.toArray a.tmps)=true:=by rw[Qhw hg hj hd hv];cases b <;> rfl
theorem wN{l:List Oper}{o oj:Oper}{j d:Nat}{want b:Bool}{a:Act}(hg:o.guard=some (j,want))(hj:l.toArray[j]?=some oj)(hd:oj.dst=some d)(hv:a.eval (.tmp d)=.bool b)(hn:(b == want)=false):
  Region.wanted o (yielded l.toArray a.tmps)=false:=by rw[Qhw hg hj hd hv,hn]
theorem qE{a:Act}{t:Nat}{v:Value}(h:a.eval (.tmp t)=v):a.tmps[t]?.getD undef=v:=(Xd a t).symm.trans h
theorem qF(a:Act)(t:Nat)(v:Value)(h:a.eval (.tmp t)=v):a.tmps[t]?.getD undef=v:=(Xd a t).symm.trans h
theorem qJ{a:Act}(t:Nat){v:Value}(h:a.eval (.tmp t)=v):a.eval (.tmp t)=v:=h
theorem qS(h:∀a w1,QiB ops Φ a w1 o.after.toList->Region.wanted o (yielded ops.toArray a.tmps)=false)(hφ:∀w1,Φ i undef w1):QaD P ops a0 w0 sp vo Φ Q hd i o:=QoJ (λ a w1 _ _ _ hD=>h a w1 hD) hφ
theorem qV{v:Value}(hφ:∀w1,Φ i (Kg o v) w1)(hg:o.guard=none)(h:∀a w1,Xe vo w0 w1->QaH ops a0 hd a->QiB ops Φ a w1 o.after.toList->(execOp a.eval o).run P w1=.ok (.value v) w1):QaD P ops a0 w0 sp vo Φ Q hd i o:=
 Qi (λ a w1 hE _ hO hD=>⟨by unfold Region.wanted;rw[hg],h a w1 hE hO hD⟩) hφ
abbrev qv(v:Value):Value->World->Prop:=λ u _=>u=v
theorem Xz{sp:Nat}{vo:Option Nat}:∀{L:List Value} {k:Nat},Qgm sp vo k (L.map qv)
 | [],_=>trivial
 | _ :: _,_=>⟨Qd,Xz⟩
theorem Qn{a:Act}{ds:List Nat}(hds:Yg (ops.take hd)=ds)(h:QaH ops a0 hd a)(hB:Uf ops a0.tmps.size=true):a=ds.foldl (λ b d=>b.put (some d) (a.eval (.tmp d))) a0:=by
 subst hds;have hdl:∀d ∈ Yg (ops.take hd),d<a0.tmps.size:=by
  unfold Uf at hB;simp only[Bool.and_eq_true]at hB;intro d hdd;obtain⟨o,ho,hd'⟩:=List.mem_filterMap.1 hdd
  simpa using List.all_eq_true.1 hB.2 d (List.mem_filterMap.2 ⟨o,List.mem_of_mem_take ho,hd'⟩)
 obtain⟨h1,h2,h3⟩:=h;have gen:∀(ds:List Nat) (b:Act),b.defers=a.defers->b.tmps.size=a.tmps.size->(∀d ∈ ds,d<b.tmps.size)->
   (ds.foldl (λ b d=>b.put (some d) (a.eval (.tmp d))) b).defers=a.defers/\(ds.foldl (λ b d=>b.put (some d) (a.eval (.tmp d))) b).tmps.size=a.tmps.size/\
   ∀t,(ds.foldl (λ b d=>b.put (some d) (a.eval (.tmp d))) b).eval (.tmp t)=if ds.contains t then a.eval (.tmp t)else b.eval (.tmp t):=by
  intro ds
  induction ds with
  | nil=>intro b hb1 hb2 _;exact⟨hb1,hb2,λ t=>by simp⟩
  | cons d ds ih=>
   intro b hb1 hb2 hb3;obtain⟨i1,i2,i3⟩:=ih (b.put (some d) (a.eval (.tmp d))) hb1 (by simp[Act.put,hb2]) (λ d' hd'=>by simp[Act.put];exact hb3 d' (List.mem_cons_of_mem _ hd'));refine⟨i1,i2,λ t=>?_⟩;rw[List.foldl_cons,i3 t]
   by_cases ht:ds.contains t=true
   ·simp at ht;simp[ht]
   ·by_cases htd:t=d
    ·subst htd
     rw[Y7 (hb3 t (List.mem_cons_self ..))];simp
    ·rw[Yn htd]
     simp at ht;simp[ht,htd]
 obtain⟨g1,g2,g3⟩:=gen (Yg (ops.take hd)) a0 h1.symm h2.symm hdl;have ext:∀(x y:Act),x.defers=y.defers->x.tmps.size=y.tmps.size->(∀t,x.eval (.tmp t)=y.eval (.tmp t))->x=y:=by
  intro x y e1 e2 e3;obtain⟨xt,xd⟩:=x;obtain⟨yt,yd⟩:=y;simp only at e1 e2;subst e1;have:xt=yt:=by
   apply Array.ext e2;intro k hk1 hk2;have h:xt.getD k undef=yt.getD k undef:=e3 k
   simpa [Array.getD_eq_getD_getElem?,hk1,hk2] using h
  rw[this]
 refine ext _ _ g1.symm g2.symm λ t=>?_;rw[g3 t]
 cases hc:(Yg (ops.take hd)).contains t with
 | true=>simp
 | false=>simp only[Bool.false_eq_true,if_false];exact h3 t hc
end
end
theorem Qj7(a b:Nat)(ha:a<18446744073709551616)(hb:b<18446744073709551616):bits BinOp.or IntKind.u64 (a:Int) (b:Int)=((a ||| b:Nat):Int):=by
 have h:(a ||| b:Nat)<2 ^ 64:=Nat.or_lt_two_pow (by omega) (by omega)
 unfold bits;show IntKind.u64.wrap (((BitVec.ofInt 64 (a:Int) ||| BitVec.ofInt 64 (b:Int)).toNat:Nat):Int)=_
 rw[BitVec.toNat_or,BitVec.toNat_ofInt,BitVec.toNat_ofInt];have e1:((a:Int) % ((2 ^ 64:Nat):Int)).toNat=a:=by omega
 have e2:((b:Int) % ((2 ^ 64:Nat):Int)).toNat=b:=by omega
 rw[e1,e2];exact IntWalk.u64_in _ ⟨by omega,by omega⟩
theorem QrD(x c:Int)(h0:0<=x)(h1:x<=72057594037927935)(c0:0<=c)(c1:c<=255):bits BinOp.or IntKind.u64 (x * 256) c=x * 256+c:=by
 obtain⟨a,rfl⟩:=Int.eq_ofNat_of_zero_le h0;obtain⟨b,rfl⟩:=Int.eq_ofNat_of_zero_le c0;have e:((a:Int) * 256)=((a * 256:Nat):Int):=by omega
 rw[e,Qj7 _ _ (by omega) (by omega)];have h:a * 256 ||| b=a * 256+b:=by have:=Nat.shiftLeft_add_eq_or_of_lt (by omega:b<2 ^ 8) a;rw[Nat.shiftLeft_eq]at this;exact this.symm
 rw[h];omega
structure Yz where
 lo:Int
 hi:Int
 size:Int
 least:Int
def Yz.cells(r:Yz):List Value:=[.int .u8 r.lo,.int .u8 r.hi,.int .i64 r.size,.int .u64 r.least]
theorem Yz.cells_len(r:Yz):r.cells.length=4:=rfl
def Yz.zero:Yz:=⟨0,0,0,0⟩
def Ye(l:List Yz)(i:Nat):Yz:=l.getD i Yz.zero
theorem QaJ(l:List Yz)(i:Nat)(h:i<l.length):Ye l i=l[i]:=by unfold Ye;rw[List.getD_eq_getElem?_getD,List.getElem?_eq_getElem h];rfl
structure Qin(w:World)(b o:Nat)(r:Yz):Prop where
 c0:w.cell? ⟨b,o,none⟩=some (.int .u8 r.lo)
 c1:w.cell? ⟨b,o+1,none⟩=some (.int .u8 r.hi)
 c2:w.cell? ⟨b,o+2,none⟩=some (.int .i64 r.size)
 c3:w.cell? ⟨b,o+3,none⟩=some (.int .u64 r.least)
theorem Qin.below{w w':World}{b o:Nat}{r:Yz}(h:Qin w b o r)(hb:Below w.heap.size w w'):Qin w' b o r:=by
 have hl:=Ql h.c0;have e:∀q,w'.cell? ⟨b,q,none⟩=w.cell? ⟨b,q,none⟩:=λ q=>hb.cell (p:=⟨b,q,none⟩) hl;obtain⟨c0,c1,c2,c3⟩:=h
 constructor <;> (rw[e];assumption)
def Qfh(w:World)(a:Option Addr)(l:List Yz):Prop:=∀i,i<len l->∃b off,a=some ⟨b,off,none⟩/\Qin w b (off+i * 4) (Ye l i)
theorem Qfh.below{w w':World}{a:Option Addr}{l:List Yz}(h:Qfh w a l)(hb:Below w.heap.size w w'):Qfh w' a l:=λ i hi=>by obtain⟨b,off,rfl,hc⟩:=h i hi;exact⟨b,off,rfl,hc.below hb⟩
theorem Qfh.block{w:World}{g:Nat}{l:List Yz}{t:TypeId}{fr:Nat × Nat}(h:w.heap[g]?=some (.cells (l.flatMap Yz.cells).toArray t fr)):Qfh w (some ⟨g,0,none⟩) l:=λ i hi=>⟨g,0,rfl,by
 have key:∀r,r<4->w.cell? ⟨g,0+i * 4+r,none⟩=(Ye l i).cells[r]?:=λ r hr=>by rw[Nat.zero_add,Qa h,List.getElem?_toArray,V9 Yz.cells 4 Yz.cells_len l i r hi hr,QaJ l i hi]
 exact⟨key 0 (by decide),key 1 (by decide),key 2 (by decide),key 3 (by decide)⟩⟩
def Jl(s:ByteArray)(i:Nat):Int:=(s.data.toList.getD i 0).toNat
theorem QbC(s:ByteArray)(i:Nat):0<=Jl s i/\Jl s i<=255:=by unfold Jl;have:=UInt8.toNat_lt (s.data.toList.getD i 0);omega
theorem Qk7(s:ByteArray){q:Nat}(h:1+q<=s.size):(s.extract 1 (1+q)).size=q:=by simp[ByteArray.size_extract];omega
theorem Qkv(s:ByteArray){q j:Nat}(h:1+q<=s.size)(hj:j<q):Jl (s.extract 1 (1+q)) j=Jl s (1+j):=by unfold Jl;rw[Lib.extract_data,List.getD_eq_getElem?_getD,List.getD_eq_getElem?_getD,List.getElem?_take,if_pos (by omega),List.getElem?_drop]
theorem QfA(w:World)(s:ByteArray):∃cap w',(convert 9 41 (.string s)).run Tryz.prog w=.ok (.slice (some ⟨w.heap.size,0,none⟩) s.size cap) w'/\Below w.heap.size w w'/\w'.heap.size=w.heap.size+1/\∀j,j<s.size->w'.cell? ⟨w.heap.size,j,none⟩=some (.int .u8 (Jl s j)):=by have h:Below w.heap.size w (w.drew.alloc (.cells (Lib.bytesCells w 5 s) 5)):=((Below.refl _ _).drew).alloc (by simp) _;exact⟨_,_,Lib.run_convert_string_bytes w 9 41 5 s Tryz.underlying9 Tryz.underlying41 Tryz.underlying5,⟨h.os,h.tape,h.output,by rw[Lib.bytesWorld_size];omega,λ i hi=>Lib.bytesWorld_at_old _ _ _ _ hi⟩,Lib.bytesWorld_size _ _ _,λ j hj=>Lib.bytesWorld_cell w _ s j hj⟩
def QcR(k:Int):List PanicEntry:=[{ v:=.iface 27 (.int .i64 k),recovered:=false }]
theorem Vd(k:Int)(w:World):Calls Tryz.prog 282 #[.int .i64 k] w λ e w'=>e=.panicked (QcR k)/\w'=w:=by
 go_enter Tryz.func282,Tryz.ntmps282
 go_wp2;exact⟨rfl,rfl,rfl⟩
def be(s:ByteArray):Nat->Int
 | 0=>0
 | k+1=>be s k * 256+Jl s (1+k)
def Zz(s:ByteArray)(rows:List Yz):Except Int (Int × ByteArray):=
 if s.size=0 then .error 4
 else match rows.find? (λ r=>decide (r.lo<=Jl s 0) && decide (Jl s 0<=r.hi))with
  | none=>.error 5
  | some r=>
   if(s.size:Int)<1+r.size then .error 4
   else if(if r.size=0 then Jl s 0 - r.lo else be s r.size.toNat)<r.least then .error 5
   else .ok (if r.size=0 then Jl s 0 - r.lo else be s r.size.toNat,s.extract (1+r.size.toNat) s.size)
structure Yz.Ok(r:Yz):Prop where
 lo0:0<=r.lo
 hi1:r.hi<=255
 sz0:0<=r.size
 sz1:r.size<=8
 le0:0<=r.least
 le1:r.least<=4294967296
def QjK(res:Except Int (Int × ByteArray))(w:World)(e:Ending)(w':World):Prop:=
 Below w.heap.size w w'/\match res with
  | .ok x=>e=.returned (.agg #[.int .u64 x.1,.string x.2])
  | .error k=>e=.panicked (QcR k)
theorem QaC{n:Int}{rest:ByteArray}{w w':World}{e:Ending}(h:QjK (.ok (n,rest)) w e w'):e=.returned (.agg #[.int .u64 n,.string rest])/\Below w.heap.size w w':=⟨h.2,h.1⟩
theorem U0{k:Int}{w w':World}{e:Ending}(h:QjK (.error k) w e w'):e=.panicked (QcR k)/\Below w.heap.size w w':=⟨h.2,h.1⟩
theorem QtC(s:ByteArray)(h:0<s.size):(s[0].toNat:Int)=Jl s 0:=by unfold Jl;rw[List.getD_eq_getElem?_getD,List.getElem?_eq_getElem (by simpa using h)];rfl
theorem QnL{s:ByteArray}{l:List Yz}{k:Nat}(hk:k<len l)(hn:∀j,j<k->¬((Ye l j).lo<=Jl s 0/\Jl s 0<=(Ye l j).hi))(hy:(Ye l k).lo<=Jl s 0/\Jl s 0<=(Ye l k).hi):
  l.find? (λ r=>decide (r.lo<=Jl s 0) && decide (Jl s 0<=r.hi))=some (Ye l k):=by
 rw[QaJ l k hk]at hy ⊢;rw[List.find?_eq_some_iff_getElem];refine⟨by simp[hy],k,hk,rfl,λ j hj=>?_⟩;have hjl:j<l.length:=Nat.lt_trans hj hk;have:=hn j hj;rw[QaJ l j hjl]at this;simp only[Bool.not_eq_true',Bool.and_eq_false_iff,decide_eq_false_iff_not]
 by_cases h:l[j].lo<=Jl s 0
 ·exact .inr λ h2=>this ⟨h,h2⟩
 ·exact .inl h
theorem QhU{s:ByteArray}{l:List Yz}(hs:0<s.size)(hn:∀j,j<len l->¬((Ye l j).lo<=Jl s 0/\Jl s 0<=(Ye l j).hi)):Zz s l=.error 5:=by
 unfold Zz;rw[if_neg (by omega)];have:l.find? (λ r=>decide (r.lo<=Jl s 0) && decide (Jl s 0<=r.hi))=none:=by rw[List.find?_eq_none];intro x hx;obtain⟨j,hj,rfl⟩:=List.getElem_of_mem hx;have:=hn j hj;rw[QaJ l j hj]at this;simp only[Bool.and_eq_true,decide_eq_true_eq,not_and];exact λ h h2=>this ⟨h,h2⟩
 rw[this]
theorem QgN{s:ByteArray}{l:List Yz}{r:Yz}(hs:0<s.size)(h:l.find? (λ r=>decide (r.lo<=Jl s 0) && decide (Jl s 0<=r.hi))=some r):
  Zz s l=if(s.size:Int)<1+r.size then .error 4
   else if(if r.size=0 then Jl s 0 - r.lo else be s r.size.toNat)<r.least then .error 5
   else .ok (if r.size=0 then Jl s 0 - r.lo else be s r.size.toNat,s.extract (1+r.size.toNat) s.size):=by
 unfold Zz;rw[if_neg (by omega),h]
def Yi(s:ByteArray)(r:Yz)(j:Nat):Int:=if r.size=0 then Jl s 0 - r.lo else be s j
theorem Qhv(s:ByteArray):∀j,0<=be s j/\be s j<256 ^ j
 | 0=>⟨by simp[be],by simp[be]⟩
 | j+1=>by have:=Qhv s j;have:=QbC s (1+j);rw[be,Int.pow_succ];omega
theorem QdY{s:ByteArray}{r:Yz}{j:Nat}(hj:(j:Int)<=8)(h:r.Ok)(hlo:r.lo<=Jl s 0):0<=Yi s r j/\Yi s r j<=18446744073709551615:=by
 unfold Yi;have hb:=QbC s 0;have hl:=h.lo0
 split
 ·omega
 ·have h1:=Qhv s j
  have h2:(256:Int) ^ j<=256 ^ 8:=by obtain⟨d,hd⟩:∃d,8=j+d:=⟨8 - j,by omega⟩;rw[hd,Int.pow_add];have h3:(0:Int)<256 ^ j:=Int.pow_pos (by decide);have h4:(0:Int)<256 ^ d:=Int.pow_pos (by decide);have h5:=Int.mul_le_mul_of_nonneg_left (show(1:Int)<=256 ^ d by omega) (Int.le_of_lt h3);rw[Int.mul_one]at h5;exact h5
  have h5:(256:Int) ^ 8=18446744073709551616:=by decide
  omega
theorem Qgj{s:ByteArray}{r:Yz}{j:Nat}(hj:j<=7)(h:r.Ok)(hlo:r.lo<=Jl s 0):Yi s r j<=72057594037927935:=by
 unfold Yi;have hb:=QbC s 0;have hl:=h.lo0
 split
 ·omega
 ·have h1:=Qhv s j
  have h2:(256:Int) ^ j<=256 ^ 7:=by obtain⟨d,hd⟩:∃d,7=j+d:=⟨7 - j,by omega⟩;rw[hd,Int.pow_add];have h3:(0:Int)<256 ^ j:=Int.pow_pos (by decide);have h4:(0:Int)<256 ^ d:=Int.pow_pos (by decide);have h5:=Int.mul_le_mul_of_nonneg_left (show(1:Int)<=256 ^ d by omega) (Int.le_of_lt h3);rw[Int.mul_one]at h5;exact h5
  have h5:(256:Int) ^ 7=72057594037927936:=by decide
  omega
theorem Qdh(s:ByteArray)(r:Yz)(j:Nat)(h:r.size≠0):Yi s r (j+1)=Yi s r j * 256+Jl s (1+j):=by unfold Yi;rw[if_neg h,if_neg h];rfl
theorem Qeb(s:ByteArray)(a:Option Addr)(cap:Nat)(l:List Yz)(w:World)(hs:s.size<=9223372036854775807)(hl0:0<len l)(hl:len l<=100)(hc:Qfh w a l)(hok:∀i,(Ye l i).Ok):
  Calls Tryz.prog 265 #[.string s,.slice a (len l) cap] w (QjK (Zz s l) w):=by
 have HC:=QLh hc;have HO:=QLh hok;clear hc hok
 by_cases h0:s.size=0
 ·have he:s.toList.isEmpty=true:=by rw[ByteArray.toList_eq];cases s with | mk d=>simp_all [ByteArray.size]
  have E:Hid (Zz s l=.error 4):=QLh (by unfold Zz;rw[if_pos h0]);clear h0
  go_enter Tryz.func265,Tryz.ntmps265
  go_wp2
  go_step3
  go_wp2_with fail;refine(Vd 4 _).mono ?_;rintro e w1 ⟨rfl,rfl⟩;go_wp2;rw[E.out];exact⟨rfl,by(repeat (first | exact Below.refl _ _ | assumption | (refine Zy ?_) | (refine Zg ?_ _) | (refine Qf ?_ _) | (refine Ji ?_ (by first | omega | (simp;done) | (simp;omega)) _) | (refine Qj ?_ (by assumption)))),rfl⟩
 have he:s.toList.isEmpty=false:=by rw[ByteArray.toList_eq];cases s with | mk d=>simp_all [ByteArray.size]
 have hs0:0<s.size:=by omega
 clear h0
 go_enter Tryz.func265,Tryz.ntmps265
 go_wp2
 go_step3
 go_wp2
 go_step3
 go_wp2
 go_loopw [16] (λ i wr=>∃k:Nat,k<len l/\i=.int .i64 k/\Below w.heap.size w wr/\Hid (∀j,j<k->¬((Ye l j).lo<=Jl s 0/\Jl s 0<=(Ye l j).hi))/\
  Hid (wr.heap[w.heap.size]?=some (.cells #[.int .u64 0,.string ⟨#[]⟩] 306 (0,0)))/\Hid (wr.heap[w.heap.size+1]?=some (.cells #[.int .u8 0,.int .u8 0,.int .i64 0,.int .u64 0] 342 (0,0)))) (λ i _=>len l - (intOf i).toNat)
 case atStart=>exact⟨0,hl0,rfl,(by(repeat (first | exact Below.refl _ _ | assumption | (refine Zy ?_) | (refine Zg ?_ _) | (refine Qf ?_ _) | (refine Ji ?_ (by first | omega | (simp;done) | (simp;omega)) _) | (refine Qj ?_ (by assumption))))),λ j hj=>absurd hj (by omega),(by(repeat (first | exact Qg _ (by repeat (first | rfl | refine Q3 _ ?_)) | refine Qe ?_ _))),(by(repeat (first | exact Qg _ (by repeat (first | rfl | refine Q3 _ ?_)) | refine Qe ?_ _)))⟩
 case round=>
  obtain⟨k,hk,rfl,hd,hn,hB0,hB1⟩:=hrel;have hlt:=hk;obtain⟨b,off,rfl,⟨c0,c1,c2,c3⟩⟩:=HC.out.below hd k hlt;have b0:(k:Int)<len l:=by omega
  have b1:k<len l:=by omega
  obtain⟨z,hz⟩:∃z,z=Jl s 0:=⟨_,rfl⟩;have hz':(s[0].toNat:Int)=z:=by rw[hz];exact QtC s hs0
  have o1:=HO.out k;have z0:0<=z:=by rw[hz];unfold Jl;omega
  have z1:z<=255:=by rw[hz];unfold Jl;have:=UInt8.toNat_lt (s.data.toList.getD 0 0);omega
  have HZ:=QLh hz;have sz:w.heap.size+1<wr.heap.size:=lt_of_block hB1.out;go_wp2_with fail;obtain⟨W,hW⟩:∃W,wr.alloc (.cells #[.int .u8 (Ye l k).lo,.int .u8 (Ye l k).hi,.int .i64 (Ye l k).size,.int .u64 (Ye l k).least] 342)=W:=⟨_,rfl⟩;have HB0:=QLh (Qe hB0.out (.cells #[.int .u8 (Ye l k).lo,.int .u8 (Ye l k).hi,.int .i64 (Ye l k).size,.int .u64 (Ye l k).least] 342));have HB1:=QLh (Qe hB1.out (.cells #[.int .u8 (Ye l k).lo,.int .u8 (Ye l k).hi,.int .i64 (Ye l k).size,.int .u64 (Ye l k).least] 342));have HBN:=QLh (heap_alloc_new wr (.cells #[.int .u8 (Ye l k).lo,.int .u8 (Ye l k).hi,.int .i64 (Ye l k).size,.int .u64 (Ye l k).least] 342));have HD:=QLh (Qf hd (.cells #[.int .u8 (Ye l k).lo,.int .u8 (Ye l k).hi,.int .i64 (Ye l k).size,.int .u64 (Ye l k).least] 342));rw[hW]at HB0 HB1 HBN HD ⊢;have q0:W.cell? ⟨wr.heap.size,0,none⟩=some (.int .u8 (Ye l k).lo):=Qa HBN.out 0;have q1:W.cell? ⟨wr.heap.size,1,none⟩=some (.int .u8 (Ye l k).hi):=Qa HBN.out 1;clear hW hd hz hB0 hB1 c0 c1 c2 c3
  by_cases m1:(Ye l k).lo<=z
  ·have M1:decide ((Ye l k).lo<=z)=true:=by simpa using m1
   by_cases m2:z<=(Ye l k).hi
   ·obtain⟨x2,hx2⟩:∃x2,x2=true:=⟨_,rfl⟩
    have M2:decide (z<=(Ye l k).hi)=x2:=by rw[hx2];simpa using m2
    refine Zp 1000 (none) (Kx (List.map qv [.string s,.int .u8 z,.pointer (some ⟨wr.heap.size,0,none⟩),.int .u8 (Ye l k).lo,.bool true,.bool true,.string s,.int .u8 z,.pointer (some ⟨wr.heap.size,1,none⟩),.int .u8 (Ye l k).hi,.bool x2,.bool x2,.bool x2])) rfl (by kernel_rfl) (Q9 Xz) (Q6 13 ⟨?s0,?s1,?s2,?s3,?s4,?s5,?s6,?s7,?s8,?s9,?s10,?s11,?s12,trivial⟩) ?_
    case s0=>refine qV (λ _=>rfl) rfl λ av wv hE hO hD=>?_;simp[go_sem,qF av 0 (.string s) (hO.2.2 0 rfl),hz',hs0,M1,M2]
    case s1=>refine qV (λ _=>rfl) rfl λ av wv hE hO hD=>?_;simp[go_sem,qE (hD.1 rfl _ rfl),hz',hs0,M1,M2]
    case s2=>refine qV (λ _=>rfl) rfl λ av wv hE hO hD=>?_;simp[go_sem,qF av 7 (.pointer (some ⟨wr.heap.size,0,none⟩)) (hO.2.2 7 rfl),hz',hs0,M1,M2]
    case s3=>refine qV (λ _=>rfl) rfl λ av wv hE hO hD=>?_;simp[go_sem,qE (hD.1 rfl _ rfl),Qb hE (by simp) q0,Qb hE (by simp) q1,hz',hs0,M1,M2]
    case s4=>refine qV (λ _=>rfl) rfl λ av wv hE hO hD=>?_;simp[go_sem,qE (hD.1 rfl _ rfl),qE (hD.2.1 rfl _ rfl),hz',hs0,M1,M2]
    case s5=>refine qV (λ _=>rfl) rfl λ av wv hE hO hD=>?_;simp[go_sem,qE (hD.1 rfl _ rfl),hz',hs0,M1,M2]
    case s6=>refine Qi (λ av wv hE hS hO hD=>⟨(wY rfl rfl rfl (hD.1 rfl _ rfl)),?_⟩) (λ _=>rfl);simp[go_sem,qF av 0 (.string s) (hO.2.2 0 rfl),qE (hD.1 rfl _ rfl),hz',hs0,M1,M2]
    case s7=>refine Qi (λ av wv hE hS hO hD=>⟨(wY rfl rfl rfl (hD.2.1 rfl _ rfl)),?_⟩) (λ _=>rfl);simp[go_sem,qE (hD.1 rfl _ rfl),qE (hD.2.1 rfl _ rfl),hz',hs0,M1,M2]
    case s8=>refine Qi (λ av wv hE hS hO hD=>⟨(wY rfl rfl rfl (hD.1 rfl _ rfl)),?_⟩) (λ _=>rfl);simp[go_sem,qF av 7 (.pointer (some ⟨wr.heap.size,0,none⟩)) (hO.2.2 7 rfl),qE (hD.1 rfl _ rfl),hz',hs0,M1,M2]
    case s9=>refine Qi (λ av wv hE hS hO hD=>⟨(wY rfl rfl rfl (hD.2.1 rfl _ rfl)),?_⟩) (λ _=>rfl);simp[go_sem,qE (hD.1 rfl _ rfl),qE (hD.2.1 rfl _ rfl),Qb hE (by simp) q0,Qb hE (by simp) q1,hz',hs0,M1,M2]
    case s10=>refine Qi (λ av wv hE hS hO hD=>⟨(wY rfl rfl rfl (hD.2.2.1 rfl _ rfl)),?_⟩) (λ _=>rfl);simp[go_sem,qE (hD.1 rfl _ rfl),qE (hD.2.1 rfl _ rfl),qE (hD.2.2.1 rfl _ rfl),hz',hs0,M1,M2]
    case s11=>refine qV (λ _=>rfl) rfl λ av wv hE hO hD=>?_;simp[go_sem,qE (hD.1 rfl _ rfl),qE (hD.2.1 rfl _ rfl),hz',hs0,M1,M2]
    case s12=>refine qV (λ _=>rfl) rfl λ av wv hE hO hD=>?_;simp[go_sem,qE (hD.1 rfl _ rfl),hz',hs0,M1,M2]
    intro a' w' hE hO hall;have hA:=Qn (ds:=[22,23,24,25,26,27,28,29,30,31,32,33,21]) rfl hO (by kernel_rfl);obtain⟨j0,j1,j2,j3,j4,j5,j6,j7,j8,j9,j10,j11,j12,-⟩:=hall;simp only[List.foldl_cons,List.foldl_nil,Act.put,List.setIfInBounds_toArray,List.set_cons_succ,List.set_cons_zero,qJ 22 (j0 _ rfl),qJ 23 (j1 _ rfl),qJ 24 (j2 _ rfl),qJ 25 (j3 _ rfl),qJ 26 (j4 _ rfl),qJ 27 (j5 _ rfl),qJ 28 (j6 _ rfl),qJ 29 (j7 _ rfl),qJ 30 (j8 _ rfl),qJ 31 (j9 _ rfl),qJ 32 (j10 _ rfl),qJ 33 (j11 _ rfl),qJ 21 (j12 _ rfl)]at hA;clear hO j0 j1 j2 j3 j4 j5 j6 j7 j8 j9 j10 j11 j12;subst hA;have F:Hid (l.find? (λ r=>decide (r.lo<=Jl s 0) && decide (Jl s 0<=r.hi))=some (Ye l k)):=QLh (QnL b1 hn.out (by rw[<-HZ.out];exact⟨m1,m2⟩));subst hx2;have B7:=QLh (Qj HD.out (Q0 hE));have X0:=QLh (Qw hE (by simp) HB0.out);have X1:=QLh (Qw hE (by simp) HB1.out);have XN:=QLh (Qw hE (by simp) HBN.out);clear hE hn M1 M2 m2 q0 q1;obtain⟨r,hr⟩:∃r,Ye l k=r:=⟨_,rfl⟩;rw[hr]at XN F o1 m1;have FR:=QLh (QgN hs0 F.out);have p0:w'.cell? ⟨wr.heap.size,0,none⟩=some (.int .u8 r.lo):=Qa XN.out 0;have p1:w'.cell? ⟨wr.heap.size,1,none⟩=some (.int .u8 r.hi):=Qa XN.out 1;have p2:w'.cell? ⟨wr.heap.size,2,none⟩=some (.int .i64 r.size):=Qa XN.out 2;have p3:w'.cell? ⟨wr.heap.size,3,none⟩=some (.int .u64 r.least):=Qa XN.out 3;have x0:=Qa X1.out;have x1:=Qk X1.out;clear hr;go_upto_region 12 with fail;obtain⟨V,hV⟩:∃V,(((w'.setCell ⟨w.heap.size+1,0,none⟩ (.int .u8 r.lo)).setCell ⟨w.heap.size+1,1,none⟩ (.int .u8 r.hi)).setCell ⟨w.heap.size+1,2,none⟩ (.int .i64 r.size)).setCell ⟨w.heap.size+1,3,none⟩ (.int .u64 r.least)=V:=⟨_,rfl⟩;have VB:Hid (Below w.heap.size w V):=QLh (by rw[<-hV];exact Ji (Ji (Ji (Ji B7.out (by simp) _) (by simp) _) (by simp) _) (by simp) _);have V0:Hid (V.heap[w.heap.size]?=some (.cells #[.int .u64 0,.string ⟨#[]⟩] 306 (0,0))):=QLh (by
     rw[<-hV];exact Qh (Qh (Qh (Qh X0.out (by simp) _) (by simp) _) (by simp) _) (by simp) _)
    have V1:V.heap[w.heap.size+1]?=some (.cells #[.int .u8 r.lo,.int .u8 r.hi,.int .i64 r.size,.int .u64 r.least] 342 (0,0)):=by rw[<-hV];exact Qc (Qc (Qc (Qc X1.out _) _) _) _
    rw[hV];have v0:V.cell? ⟨w.heap.size+1,0,none⟩=some (.int .u8 r.lo):=Qa V1 0;have v2:V.cell? ⟨w.heap.size+1,2,none⟩=some (.int .i64 r.size):=Qa V1 2;have v3:V.cell? ⟨w.heap.size+1,3,none⟩=some (.int .u64 r.least):=Qa V1 3;have HV1:=QLh V1;clear hV V1 p0 p1 p2 p3 x0 x1 HB0 HB1 HBN X0 X1 XN B7 HD HC hlt b0 b1 hk;have k1:=o1.sz0;have k2:=o1.sz1;have k3:=o1.lo0;have i1:IntKind.i64.wrap (1+r.size)=1+r.size:=IntWalk.i64_in _ (by omega)
    by_cases c1:(s.size:Int)<1+r.size
    ·have E:Hid (Zz s l=.error 4):=QLh (by rw[FR.out,if_pos c1])
     go_wp2_with fail;refine(Vd 4 _).mono ?_;rintro e w1 ⟨rfl,rfl⟩;go_wp2;rw[E.out];exact⟨rfl,VB.out,rfl⟩
    ·have i2:IntKind.u8.wrap (z - r.lo)=z - r.lo:=IntWalk.u8_in _ (by omega)
     have i3:IntKind.u64.wrap (z - r.lo)=z - r.lo:=IntWalk.u64_in _ (by omega);obtain⟨q,hq⟩:∃q:Nat,r.size=q:=⟨r.size.toNat,by omega⟩
     by_cases c2:r.size=0
     ·have c2':(r.size == 0)=true:=by simpa using c2
      have HQ:=QLh hq;have C2:=QLh c2;clear hq c2;go_upto_region 16 with fail;refine Zp 1000 (none) (Kx (List.map qv [.string s,.int .u8 z,.pointer (some ⟨w.heap.size+1,0,none⟩),.int .u8 r.lo,.int .u8 (z - r.lo),.int .u64 (z - r.lo),.int .u64 (z - r.lo)])) rfl (by kernel_rfl) (Q9 Xz) (Q6 7 ⟨?s0,?s1,?s2,?s3,?s4,?s5,?s6,trivial⟩) ?_
      case s0=>refine qV (λ _=>rfl) rfl λ av wv hE hO hD=>?_;simp[go_sem,qF av 0 (.string s) (hO.2.2 0 rfl),hz',hs0,i2,i3]
      case s1=>refine qV (λ _=>rfl) rfl λ av wv hE hO hD=>?_;simp[go_sem,qE (hD.1 rfl _ rfl),hz',hs0,i2,i3]
      case s2=>refine qV (λ _=>rfl) rfl λ av wv hE hO hD=>?_;simp[go_sem,qF av 5 (.pointer (some ⟨w.heap.size+1,0,none⟩)) (hO.2.2 5 rfl),hz',hs0,i2,i3]
      case s3=>refine qV (λ _=>rfl) rfl λ av wv hE hO hD=>?_;simp[go_sem,qE (hD.1 rfl _ rfl),Qb hE (by simp) v0,hz',hs0,i2,i3]
      case s4=>refine qV (λ _=>rfl) rfl λ av wv hE hO hD=>?_;simp[go_sem,qE (hD.1 rfl _ rfl),qE (hD.2.1 rfl _ rfl),hz',hs0,i2,i3]
      case s5=>refine qV (λ _=>rfl) rfl λ av wv hE hO hD=>?_;simp[go_sem,qE (hD.1 rfl _ rfl),hz',hs0,i2,i3]
      case s6=>refine qV (λ _=>rfl) rfl λ av wv hE hO hD=>?_;simp[go_sem,qE (hD.1 rfl _ rfl),hz',hs0,i2,i3]
      intro a' w' hE hO hall;have hA:=Qn (ds:=[53,54,55,56,57,58,8]) rfl hO (by kernel_rfl);obtain⟨j0,j1,j2,j3,j4,j5,j6,-⟩:=hall;simp only[List.foldl_cons,List.foldl_nil,Act.put,List.setIfInBounds_toArray,List.set_cons_succ,List.set_cons_zero,qJ 53 (j0 _ rfl),qJ 54 (j1 _ rfl),qJ 55 (j2 _ rfl),qJ 56 (j3 _ rfl),qJ 57 (j4 _ rfl),qJ 58 (j5 _ rfl),qJ 8 (j6 _ rfl)]at hA;clear hO j0 j1 j2 j3 j4 j5 j6;subst hA;have VB2:=QLh (Qj VB.out (Q0 hE));have V12:=QLh (Qw hE (by simp) HV1.out);have V02:=QLh (Qw hE (by simp) V0.out);have v2:w'.cell? ⟨w.heap.size+1,2,none⟩=some (.int .i64 r.size):=Qa V12.out 2;clear hE VB V0 HV1 v0 v3 i2 i3;go_upto_region 17 with fail;have qs:1+q<=s.size:=by have:=HQ.out;omega
      have hxs:(s.extract 1 (1+q)).size=q:=Qk7 s qs;obtain⟨bc,Y,hcv,hY1,hY2,hY3⟩:=QfA w' (s.extract 1 (1+q));rw[hxs]at hcv hY3;have HY3:Hid (∀j,j<q->Y.cell? ⟨(World.heap w').size,j,none⟩=some (.int .u8 (Jl s (1+j)))):=QLh (λ j hj=>by rw[hY3 j hj,Qkv s qs hj]);have YB:=QLh (Qj VB2.out hY1);have Y1:=QLh ((hY1.block _ (lt_of_block V12.out)).trans V12.out);have Y0:=QLh ((hY1.block _ (lt_of_block V02.out)).trans V02.out);have YS:w.heap.size+1<Y.heap.size:=lt_of_block Y1.out;clear hY1 hY2 hY3 hxs;have i5:(1+r.size).toNat=1+q:=by have:=HQ.out;omega
      have i6:r.size.toNat=q:=by have:=HQ.out;omega
      have q8:q<=8:=by have:=HQ.out;omega
      have j1:1<=(s.size:Int):=by omega
      have j2:1+r.size<=(s.size:Int):=by omega
      have j3:1<=1+r.size:=by omega
      go_wp2_with fail;clear hcv
      go_loopg [8,66] q (λ g n i wx=>∃j:Nat,g+j=q/\i=.int .i64 j/\n=.int .u64 (Yi s r j)/\wx=Y)
      case atStart=>exact⟨0,rfl,rfl,(by unfold Yi;rw[if_pos C2.out,<-HZ.out]),rfl⟩
      case round=>
       obtain⟨j,hj,rfl,rfl,rfl⟩:=hrel;have vb:=QdY (s:=s) (r:=r) (j:=j) (by have:=HQ.out;omega) o1 (by rw[<-HZ.out];exact m1)
       by_cases hjq:j<q
       ·have b0:(j:Int)<q:=by omega
        have cc:=HY3.out j hjq;have vs:=QLh (Qdh s r j (by have:=HQ.out;omega));have cb:=QbC s (1+j);have vb2:=Qgj (s:=s) (r:=r) (j:=j) (by omega) o1 (by rw[<-HZ.out];exact m1);obtain⟨c,hc⟩:∃c,Jl s (1+j)=c:=⟨_,rfl⟩;obtain⟨v,hv⟩:∃v,Yi s r j=v:=⟨_,rfl⟩;rw[hc]at cc cb;rw[hv]at vb vb2;have hor:=QrD v c vb.1 vb2 cb.1 cb.2;go_wp2
        go_roundg (gk - 1)
        case rel=>exact⟨j+1,by omega,by go_num,(by rw[vs.out,hv,hc,<-hor]),rfl⟩
        case measure=>omega
       ·obtain rfl:j=q:=by omega
        have E0:Zz s l=if Yi s r j<r.least then .error 5 else .ok (Yi s r j,s.extract (1+j) s.size):=by rw[FR.out,if_neg (by omega),i6];rfl
        obtain⟨v,hv⟩:∃v,Yi s r j=v:=⟨_,rfl⟩;rw[hv]at vb E0 ⊢;have g2:wr.cell? ⟨w.heap.size+1,2,none⟩=some (.int .i64 r.size):=Qa Y1.out 2;have g3:wr.cell? ⟨w.heap.size+1,3,none⟩=some (.int .u64 r.least):=Qa Y1.out 3;have y0:∀o,wr.cell? ⟨w.heap.size,o,none⟩=_:=Qa Y0.out;have y1:∀o,wr.frozen? ⟨w.heap.size,o,none⟩=false:=Qk Y0.out;clear hv
        by_cases hv:v<r.least
        ·have E:Hid (Zz s l=.error 5):=QLh (by rw[E0,if_pos hv])
         clear E0;go_wp2_with fail;refine(Vd 5 _).mono ?_;rintro e w1 ⟨rfl,rfl⟩;go_wp2;rw[E.out];exact⟨rfl,YB.out,rfl⟩
        ·have E:Hid (Zz s l=.ok (v,s.extract (1+j) s.size)):=QLh (by rw[E0,if_neg hv])
         clear E0;go_wp2_with fail
         try rw[Exit.noGoto_ret]
         refine bodyPost_ret (v:=.agg #[.int .u64 v,.string (s.extract (1+j) s.size)]) (by simp[results,Tryz.results265,go_sem,y0]) rfl ?_;rw[E.out];exact⟨(by have:=YB.out;(repeat (first | exact Below.refl _ _ | assumption | (refine Zy ?_) | (refine Zg ?_ _) | (refine Qf ?_ _) | (refine Ji ?_ (by first | omega | (simp;done) | (simp;omega)) _) | (refine Qj ?_ (by assumption))))),rfl⟩
     ·have c2':(r.size == 0)=false:=by simpa using c2
      have HQ:=QLh hq;have C2:=QLh c2;clear hq c2;have qs:1+q<=s.size:=by have:=HQ.out;omega
      have hxs:(s.extract 1 (1+q)).size=q:=Qk7 s qs;obtain⟨bc,Y,hcv,hY1,hY2,hY3⟩:=QfA V (s.extract 1 (1+q));rw[hxs]at hcv hY3;have HY3:Hid (∀j,j<q->Y.cell? ⟨(World.heap V).size,j,none⟩=some (.int .u8 (Jl s (1+j)))):=QLh (λ j hj=>by rw[hY3 j hj,Qkv s qs hj]);have YB:=QLh (Qj VB.out hY1);have Y1:=QLh ((hY1.block _ (lt_of_block HV1.out)).trans HV1.out);have Y0:=QLh ((hY1.block _ (lt_of_block V0.out)).trans V0.out);have YS:w.heap.size+1<Y.heap.size:=lt_of_block Y1.out;clear hY1 hY2 hY3 hxs;have i5:(1+r.size).toNat=1+q:=by have:=HQ.out;omega
      have i6:r.size.toNat=q:=by have:=HQ.out;omega
      have q8:q<=8:=by have:=HQ.out;omega
      have j1:1<=(s.size:Int):=by omega
      have j2:1+r.size<=(s.size:Int):=by omega
      have j3:1<=1+r.size:=by omega
      go_wp2_with fail;clear hcv
      go_loopg [8,66] q (λ g n i wx=>∃j:Nat,g+j=q/\i=.int .i64 j/\n=.int .u64 (Yi s r j)/\wx=Y)
      case atStart=>exact⟨0,rfl,rfl,(by unfold Yi;rw[if_neg C2.out];rfl),rfl⟩
      case round=>
       obtain⟨j,hj,rfl,rfl,rfl⟩:=hrel;have vb:=QdY (s:=s) (r:=r) (j:=j) (by have:=HQ.out;omega) o1 (by rw[<-HZ.out];exact m1)
       by_cases hjq:j<q
       ·have b0:(j:Int)<q:=by omega
        have cc:=HY3.out j hjq;have vs:=QLh (Qdh s r j (by have:=HQ.out;omega));have cb:=QbC s (1+j);have vb2:=Qgj (s:=s) (r:=r) (j:=j) (by omega) o1 (by rw[<-HZ.out];exact m1);obtain⟨c,hc⟩:∃c,Jl s (1+j)=c:=⟨_,rfl⟩;obtain⟨v,hv⟩:∃v,Yi s r j=v:=⟨_,rfl⟩;rw[hc]at cc cb;rw[hv]at vb vb2;have hor:=QrD v c vb.1 vb2 cb.1 cb.2;go_wp2
        go_roundg (gk - 1)
        case rel=>exact⟨j+1,by omega,by go_num,(by rw[vs.out,hv,hc,<-hor]),rfl⟩
        case measure=>omega
       ·obtain rfl:j=q:=by omega
        have E0:Zz s l=if Yi s r j<r.least then .error 5 else .ok (Yi s r j,s.extract (1+j) s.size):=by rw[FR.out,if_neg (by omega),i6];rfl
        obtain⟨v,hv⟩:∃v,Yi s r j=v:=⟨_,rfl⟩;rw[hv]at vb E0 ⊢;have g2:wr.cell? ⟨w.heap.size+1,2,none⟩=some (.int .i64 r.size):=Qa Y1.out 2;have g3:wr.cell? ⟨w.heap.size+1,3,none⟩=some (.int .u64 r.least):=Qa Y1.out 3;have y0:∀o,wr.cell? ⟨w.heap.size,o,none⟩=_:=Qa Y0.out;have y1:∀o,wr.frozen? ⟨w.heap.size,o,none⟩=false:=Qk Y0.out;clear hv
        by_cases hv:v<r.least
        ·have E:Hid (Zz s l=.error 5):=QLh (by rw[E0,if_pos hv])
         clear E0;go_wp2_with fail;refine(Vd 5 _).mono ?_;rintro e w1 ⟨rfl,rfl⟩;go_wp2;rw[E.out];exact⟨rfl,YB.out,rfl⟩
        ·have E:Hid (Zz s l=.ok (v,s.extract (1+j) s.size)):=QLh (by rw[E0,if_neg hv])
         clear E0;go_wp2_with fail
         try rw[Exit.noGoto_ret]
         refine bodyPost_ret (v:=.agg #[.int .u64 v,.string (s.extract (1+j) s.size)]) (by simp[results,Tryz.results265,go_sem,y0]) rfl ?_;rw[E.out];exact⟨(by have:=YB.out;(repeat (first | exact Below.refl _ _ | assumption | (refine Zy ?_) | (refine Zg ?_ _) | (refine Qf ?_ _) | (refine Ji ?_ (by first | omega | (simp;done) | (simp;omega)) _) | (refine Qj ?_ (by assumption))))),rfl⟩
   ·obtain⟨x2,hx2⟩:∃x2,x2=false:=⟨_,rfl⟩
    have M2:decide (z<=(Ye l k).hi)=x2:=by rw[hx2];simpa using m2
    refine Zp 1000 (none) (Kx (List.map qv [.string s,.int .u8 z,.pointer (some ⟨wr.heap.size,0,none⟩),.int .u8 (Ye l k).lo,.bool true,.bool true,.string s,.int .u8 z,.pointer (some ⟨wr.heap.size,1,none⟩),.int .u8 (Ye l k).hi,.bool x2,.bool x2,.bool x2])) rfl (by kernel_rfl) (Q9 Xz) (Q6 13 ⟨?s0,?s1,?s2,?s3,?s4,?s5,?s6,?s7,?s8,?s9,?s10,?s11,?s12,trivial⟩) ?_
    case s0=>refine qV (λ _=>rfl) rfl λ av wv hE hO hD=>?_;simp[go_sem,qF av 0 (.string s) (hO.2.2 0 rfl),hz',hs0,M1,M2]
    case s1=>refine qV (λ _=>rfl) rfl λ av wv hE hO hD=>?_;simp[go_sem,qE (hD.1 rfl _ rfl),hz',hs0,M1,M2]
    case s2=>refine qV (λ _=>rfl) rfl λ av wv hE hO hD=>?_;simp[go_sem,qF av 7 (.pointer (some ⟨wr.heap.size,0,none⟩)) (hO.2.2 7 rfl),hz',hs0,M1,M2]
    case s3=>refine qV (λ _=>rfl) rfl λ av wv hE hO hD=>?_;simp[go_sem,qE (hD.1 rfl _ rfl),Qb hE (by simp) q0,Qb hE (by simp) q1,hz',hs0,M1,M2]
    case s4=>refine qV (λ _=>rfl) rfl λ av wv hE hO hD=>?_;simp[go_sem,qE (hD.1 rfl _ rfl),qE (hD.2.1 rfl _ rfl),hz',hs0,M1,M2]
    case s5=>refine qV (λ _=>rfl) rfl λ av wv hE hO hD=>?_;simp[go_sem,qE (hD.1 rfl _ rfl),hz',hs0,M1,M2]
    case s6=>refine Qi (λ av wv hE hS hO hD=>⟨(wY rfl rfl rfl (hD.1 rfl _ rfl)),?_⟩) (λ _=>rfl);simp[go_sem,qF av 0 (.string s) (hO.2.2 0 rfl),qE (hD.1 rfl _ rfl),hz',hs0,M1,M2]
    case s7=>refine Qi (λ av wv hE hS hO hD=>⟨(wY rfl rfl rfl (hD.2.1 rfl _ rfl)),?_⟩) (λ _=>rfl);simp[go_sem,qE (hD.1 rfl _ rfl),qE (hD.2.1 rfl _ rfl),hz',hs0,M1,M2]
    case s8=>refine Qi (λ av wv hE hS hO hD=>⟨(wY rfl rfl rfl (hD.1 rfl _ rfl)),?_⟩) (λ _=>rfl);simp[go_sem,qF av 7 (.pointer (some ⟨wr.heap.size,0,none⟩)) (hO.2.2 7 rfl),qE (hD.1 rfl _ rfl),hz',hs0,M1,M2]
    case s9=>refine Qi (λ av wv hE hS hO hD=>⟨(wY rfl rfl rfl (hD.2.1 rfl _ rfl)),?_⟩) (λ _=>rfl);simp[go_sem,qE (hD.1 rfl _ rfl),qE (hD.2.1 rfl _ rfl),Qb hE (by simp) q0,Qb hE (by simp) q1,hz',hs0,M1,M2]
    case s10=>refine Qi (λ av wv hE hS hO hD=>⟨(wY rfl rfl rfl (hD.2.2.1 rfl _ rfl)),?_⟩) (λ _=>rfl);simp[go_sem,qE (hD.1 rfl _ rfl),qE (hD.2.1 rfl _ rfl),qE (hD.2.2.1 rfl _ rfl),hz',hs0,M1,M2]
    case s11=>refine qV (λ _=>rfl) rfl λ av wv hE hO hD=>?_;simp[go_sem,qE (hD.1 rfl _ rfl),qE (hD.2.1 rfl _ rfl),hz',hs0,M1,M2]
    case s12=>refine qV (λ _=>rfl) rfl λ av wv hE hO hD=>?_;simp[go_sem,qE (hD.1 rfl _ rfl),hz',hs0,M1,M2]
    intro a' w' hE hO hall;have hA:=Qn (ds:=[22,23,24,25,26,27,28,29,30,31,32,33,21]) rfl hO (by kernel_rfl);obtain⟨j0,j1,j2,j3,j4,j5,j6,j7,j8,j9,j10,j11,j12,-⟩:=hall;simp only[List.foldl_cons,List.foldl_nil,Act.put,List.setIfInBounds_toArray,List.set_cons_succ,List.set_cons_zero,qJ 22 (j0 _ rfl),qJ 23 (j1 _ rfl),qJ 24 (j2 _ rfl),qJ 25 (j3 _ rfl),qJ 26 (j4 _ rfl),qJ 27 (j5 _ rfl),qJ 28 (j6 _ rfl),qJ 29 (j7 _ rfl),qJ 30 (j8 _ rfl),qJ 31 (j9 _ rfl),qJ 32 (j10 _ rfl),qJ 33 (j11 _ rfl),qJ 21 (j12 _ rfl)]at hA;clear hO j0 j1 j2 j3 j4 j5 j6 j7 j8 j9 j10 j11 j12;subst hA;have NM:Hid (¬((Ye l k).lo<=Jl s 0/\Jl s 0<=(Ye l k).hi)):=QLh (by rw[<-HZ.out];exact λ h=>m2 h.2);subst hx2;clear M1 M2 m1 m2 q0 q1;have B7:=QLh (Qj HD.out (Q0 hE));have X0:=QLh (Qw hE (by simp) HB0.out);have X1:=QLh (Qw hE (by simp) HB1.out);clear hE
    by_cases hlast:k+1=len l
    ·have e1:((k:Int) == (len l:Int) - 1)=true:=by simp;omega
     have e2:IntKind.i64.wrap ((len l:Int) - 1)=(len l:Int) - 1:=IntWalk.i64_in _ (by omega);have E:Hid (Zz s l=.error 5):=QLh (QhU (by omega) (λ j hj=>by
      by_cases e:j=k
      ·subst e;exact NM.out
      ·exact hn.out j (by omega)))
     go_wp2_with fail;refine(Vd 5 _).mono ?_;rintro e w1 ⟨rfl,rfl⟩;go_wp2;rw[E.out];exact⟨rfl,B7.out,rfl⟩
    ·have e1:((k:Int) == (len l:Int) - 1)=false:=by simp;omega
     have e2:IntKind.i64.wrap ((len l:Int) - 1)=(len l:Int) - 1:=IntWalk.i64_in _ (by omega);go_wp2
     go_roundw
     case rel=>exact⟨k+1,by omega,by go_num,B7.out,(λ j hj=>by
      by_cases e:j=k
      ·subst e;exact NM.out
      ·exact hn.out j (by omega)),X0.out,X1.out⟩
     case measure=>simp[intOf];omega
  ·have M1:decide ((Ye l k).lo<=z)=false:=by simpa using m1
   refine Zp 1000 (none) (Kx (List.map qv [.string s,.int .u8 z,.pointer (some ⟨wr.heap.size,0,none⟩),.int .u8 (Ye l k).lo,.bool false,.bool false,undef,undef,undef,undef,undef,.bool false,.bool false])) rfl (by kernel_rfl) (Q9 Xz) (Q6 13 ⟨?s0,?s1,?s2,?s3,?s4,?s5,qS (λ av wv hD=>(wN rfl rfl rfl (hD.1 rfl _ rfl) rfl)) (λ _=>rfl),qS (λ av wv hD=>(wN rfl rfl rfl (hD.2.1 rfl _ rfl) rfl)) (λ _=>rfl),qS (λ av wv hD=>(wN rfl rfl rfl (hD.1 rfl _ rfl) rfl)) (λ _=>rfl),qS (λ av wv hD=>(wN rfl rfl rfl (hD.2.1 rfl _ rfl) rfl)) (λ _=>rfl),qS (λ av wv hD=>(wN rfl rfl rfl (hD.2.2.1 rfl _ rfl) rfl)) (λ _=>rfl),?s11,?s12,trivial⟩) ?_
   case s0=>refine qV (λ _=>rfl) rfl λ av wv hE hO hD=>?_;simp[go_sem,qF av 0 (.string s) (hO.2.2 0 rfl),hz',hs0,M1]
   case s1=>refine qV (λ _=>rfl) rfl λ av wv hE hO hD=>?_;simp[go_sem,qE (hD.1 rfl _ rfl),hz',hs0,M1]
   case s2=>refine qV (λ _=>rfl) rfl λ av wv hE hO hD=>?_;simp[go_sem,qF av 7 (.pointer (some ⟨wr.heap.size,0,none⟩)) (hO.2.2 7 rfl),hz',hs0,M1]
   case s3=>refine qV (λ _=>rfl) rfl λ av wv hE hO hD=>?_;simp[go_sem,qE (hD.1 rfl _ rfl),Qb hE (by simp) q0,Qb hE (by simp) q1,hz',hs0,M1]
   case s4=>refine qV (λ _=>rfl) rfl λ av wv hE hO hD=>?_;simp[go_sem,qE (hD.1 rfl _ rfl),qE (hD.2.1 rfl _ rfl),hz',hs0,M1]
   case s5=>refine qV (λ _=>rfl) rfl λ av wv hE hO hD=>?_;simp[go_sem,qE (hD.1 rfl _ rfl),hz',hs0,M1]
   case s11=>refine qV (λ _=>rfl) rfl λ av wv hE hO hD=>?_;simp[go_sem,qE (hD.1 rfl _ rfl),qE (hD.2.1 rfl _ rfl),hz',hs0,M1]
   case s12=>refine qV (λ _=>rfl) rfl λ av wv hE hO hD=>?_;simp[go_sem,qE (hD.1 rfl _ rfl),hz',hs0,M1]
   intro a' w' hE hO hall;have hA:=Qn (ds:=[22,23,24,25,26,27,28,29,30,31,32,33,21]) rfl hO (by kernel_rfl);obtain⟨j0,j1,j2,j3,j4,j5,j6,j7,j8,j9,j10,j11,j12,-⟩:=hall;simp only[List.foldl_cons,List.foldl_nil,Act.put,List.setIfInBounds_toArray,List.set_cons_succ,List.set_cons_zero,qJ 22 (j0 _ rfl),qJ 23 (j1 _ rfl),qJ 24 (j2 _ rfl),qJ 25 (j3 _ rfl),qJ 26 (j4 _ rfl),qJ 27 (j5 _ rfl),qJ 28 (j6 _ rfl),qJ 29 (j7 _ rfl),qJ 30 (j8 _ rfl),qJ 31 (j9 _ rfl),qJ 32 (j10 _ rfl),qJ 33 (j11 _ rfl),qJ 21 (j12 _ rfl)]at hA;clear hO j0 j1 j2 j3 j4 j5 j6 j7 j8 j9 j10 j11 j12;subst hA;have NM:Hid (¬((Ye l k).lo<=Jl s 0/\Jl s 0<=(Ye l k).hi)):=QLh (by rw[<-HZ.out];exact λ h=>m1 h.1);clear M1 m1 q0 q1;have B7:=QLh (Qj HD.out (Q0 hE));have X0:=QLh (Qw hE (by simp) HB0.out);have X1:=QLh (Qw hE (by simp) HB1.out);clear hE
   by_cases hlast:k+1=len l
   ·have e1:((k:Int) == (len l:Int) - 1)=true:=by simp;omega
    have e2:IntKind.i64.wrap ((len l:Int) - 1)=(len l:Int) - 1:=IntWalk.i64_in _ (by omega);have E:Hid (Zz s l=.error 5):=QLh (QhU (by omega) (λ j hj=>by
     by_cases e:j=k
     ·subst e;exact NM.out
     ·exact hn.out j (by omega)))
    go_wp2_with fail;refine(Vd 5 _).mono ?_;rintro e w1 ⟨rfl,rfl⟩;go_wp2;rw[E.out];exact⟨rfl,B7.out,rfl⟩
   ·have e1:((k:Int) == (len l:Int) - 1)=false:=by simp;omega
    have e2:IntKind.i64.wrap ((len l:Int) - 1)=(len l:Int) - 1:=IntWalk.i64_in _ (by omega);go_wp2
    go_roundw
    case rel=>exact⟨k+1,by omega,by go_num,B7.out,(λ j hj=>by
     by_cases e:j=k
     ·subst e;exact NM.out
     ·exact hn.out j (by omega)),X0.out,X1.out⟩
    case measure=>simp[intOf];omega
def RdB(w:World)(b:Nat)(s:ByteArray)(a most:Int):Prop:=w.heap[b]?=some (.cells #[.string s,.int .i64 a,.int .i64 most] 282 (0,0))
theorem RdB.below{w w':World}{b:Nat}{s:ByteArray}{a most:Int}(h:RdB w b s a most)(hb:Below w.heap.size w w'):RdB w' b s a most:=(hb.block _ (lt_of_block h)).trans h
theorem Qiv(w:World)(b:Nat)(s:ByteArray)(a most:Int)(h:RdB w b s a most):
  Calls Tryz.prog 292 #[.pointer (some ⟨b,0,none⟩)] w λ e w'=>e=.returned (.int .i64 a)/\w'=w:=by
 have c1:w.cell? ⟨b,1,none⟩=some (.int .i64 a):=Qa h 1;clear h
 go_enter Tryz.func292,Tryz.ntmps292
 go_wp2;go_ret;exact⟨rfl,rfl⟩
theorem Qce(w:World)(b:Nat)(s:ByteArray)(a:Nat)(most:Int)(h:RdB w b s a most)(ha:a<=s.size)(hs:s.size<=9223372036854775807):
  Calls Tryz.prog 266 #[.pointer (some ⟨b,0,none⟩)] w λ e w'=>e=.returned (.string (s.extract a s.size))/\Below w.heap.size w w':=by
 have c0:w.cell? ⟨b,0,none⟩=some (.string s):=Qa h 0;have c1:w.cell? ⟨b,1,none⟩=some (.int .i64 a):=Qa h 1;have i1:(a:Int)<=s.size:=by omega
 have i2:0<=(a:Int):=by omega
 have i3:a<=s.size:=ha;clear h
 go_enter Tryz.func266,Tryz.ntmps266
 go_wp2;refine Zp 1000 (none) (Kx (List.map qv [.pointer (some ⟨b,0,none⟩),.pointer (some ⟨b,0,none⟩),.pointer (some ⟨b,0,none⟩),.string s,.pointer (some ⟨b,0,none⟩),.pointer (some ⟨b,0,none⟩),.pointer (some ⟨b,1,none⟩),.int .i64 a,.string (s.extract a s.size),.string (s.extract a s.size)])) rfl (by kernel_rfl) (Q9 Xz) (Q6 10 ⟨?s0,?s1,?s2,?s3,?s4,?s5,?s6,?s7,?s8,?s9,trivial⟩) ?_
 case s0=>refine qV (λ _=>rfl) rfl λ av wv hE hO hD=>?_;simp[go_sem,qF av 0 (.pointer (some ⟨b,0,none⟩)) (hO.2.2 0 rfl),i1,i2,i3]
 case s1=>refine qV (λ _=>rfl) rfl λ av wv hE hO hD=>?_;simp[go_sem,qE (hD.1 rfl _ rfl),i1,i2,i3]
 case s2=>refine qV (λ _=>rfl) rfl λ av wv hE hO hD=>?_;simp[go_sem,qE (hD.1 rfl _ rfl),i1,i2,i3]
 case s3=>refine qV (λ _=>rfl) rfl λ av wv hE hO hD=>?_;simp[go_sem,qE (hD.1 rfl _ rfl),Qb hE (by simp) c0,Qb hE (by simp) c1,i1,i2,i3]
 case s4=>refine qV (λ _=>rfl) rfl λ av wv hE hO hD=>?_;simp[go_sem,qF av 0 (.pointer (some ⟨b,0,none⟩)) (hO.2.2 0 rfl),i1,i2,i3]
 case s5=>refine qV (λ _=>rfl) rfl λ av wv hE hO hD=>?_;simp[go_sem,qE (hD.1 rfl _ rfl),i1,i2,i3]
 case s6=>refine qV (λ _=>rfl) rfl λ av wv hE hO hD=>?_;simp[go_sem,qE (hD.1 rfl _ rfl),i1,i2,i3]
 case s7=>refine qV (λ _=>rfl) rfl λ av wv hE hO hD=>?_;simp[go_sem,qE (hD.1 rfl _ rfl),Qb hE (by simp) c0,Qb hE (by simp) c1,i1,i2,i3]
 case s8=>refine qV (λ _=>rfl) rfl λ av wv hE hO hD=>?_;simp[go_sem,qE (hD.1 rfl _ rfl),qE (hD.2.1 rfl _ rfl),i1,i2,i3]
 case s9=>refine qV (λ _=>rfl) rfl λ av wv hE hO hD=>?_;simp[go_sem,qE (hD.1 rfl _ rfl),i1,i2,i3]
 intro a' w' hE hO hall;have hA:=Qn (ds:=[6,7,8,9,10,11,12,13,14,2]) rfl hO (by kernel_rfl);obtain⟨j0,j1,j2,j3,j4,j5,j6,j7,j8,j9,-⟩:=hall;simp only[List.foldl_cons,List.foldl_nil,Act.put,List.setIfInBounds_toArray,List.set_cons_succ,List.set_cons_zero,qJ 6 (j0 _ rfl),qJ 7 (j1 _ rfl),qJ 8 (j2 _ rfl),qJ 9 (j3 _ rfl),qJ 10 (j4 _ rfl),qJ 11 (j5 _ rfl),qJ 12 (j6 _ rfl),qJ 13 (j7 _ rfl),qJ 14 (j8 _ rfl),qJ 2 (j9 _ rfl)]at hA;clear hO j0 j1 j2 j3 j4 j5 j6 j7 j8 j9;subst hA;have B:=QLh (Q0 hE);clear hE;go_wp2;go_ret;exact⟨rfl,B.out⟩
def Kj(n most:Int)(rest:ByteArray):Except Int (Int × ByteArray):=if most<n then .error 3 else .ok (n,rest)
theorem Qhp(w:World)(b:Nat)(s rest:ByteArray)(a most n:Int)(h:RdB w b s a most)(hm0:0<=most)(hm1:most<=9223372036854775807):
  Calls Tryz.prog 296 #[.pointer (some ⟨b,0,none⟩),.agg #[.int .u64 n,.string rest]] w (QjK (Kj n most rest) w):=by
 have c2:w.cell? ⟨b,2,none⟩=some (.int .i64 most):=Qa h 2;have hl:=lt_of_block h;have i1:IntKind.u64.wrap most=most:=IntWalk.u64_in _ (by omega);clear h
 go_enter Tryz.func296,Tryz.ntmps296
 go_wp2;obtain⟨W,hW⟩:∃W,(w.alloc (.cells #[.int .u64 n,.string rest] 306)).alloc (.cells #[.int .u64 0,.string ⟨#[]⟩] 306)=W:=⟨_,rfl⟩;have WB:Hid (Below w.heap.size w W):=QLh (by rw[<-hW];(repeat (first | exact Below.refl _ _ | assumption | (refine Zy ?_) | (refine Zg ?_ _) | (refine Qf ?_ _) | (refine Ji ?_ (by first | omega | (simp;done) | (simp;omega)) _) | (refine Qj ?_ (by assumption)))))
 have W0:Hid (W.heap[w.heap.size]?=some (.cells #[.int .u64 n,.string rest] 306 (0,0))):=QLh (by rw[<-hW];(repeat (first | exact Qg _ (by repeat (first | rfl | refine Q3 _ ?_)) | refine Qe ?_ _)))
 have W1:Hid (W.heap[w.heap.size+1]?=some (.cells #[.int .u64 0,.string ⟨#[]⟩] 306 (0,0))):=QLh (by rw[<-hW];(repeat (first | exact Qg _ (by repeat (first | rfl | refine Q3 _ ?_)) | refine Qe ?_ _)))
 rw[hW];have c2:W.cell? ⟨b,2,none⟩=some (.int .i64 most):=by rw[WB.out.cell (p:=⟨b,2,none⟩) hl];exact c2
 have d0:W.cell? ⟨w.heap.size,0,none⟩=some (.int .u64 n):=Qa W0.out 0;clear hW;obtain⟨x,hx⟩:∃x,decide (most<n)=x:=⟨_,rfl⟩;refine Zp 1000 (none) (Kx (List.map qv [.pointer (some ⟨w.heap.size,0,none⟩),.int .u64 n,.pointer (some ⟨b,0,none⟩),.pointer (some ⟨b,0,none⟩),.pointer (some ⟨b,2,none⟩),.int .i64 most,.int .u64 most,.bool x])) rfl (by kernel_rfl) (Q9 Xz) (Q6 8 ⟨?s0,?s1,?s2,?s3,?s4,?s5,?s6,?s7,trivial⟩) ?_
 case s0=>refine qV (λ _=>rfl) rfl λ av wv hE hO hD=>?_;simp[go_sem,qF av 3 (.pointer (some ⟨w.heap.size,0,none⟩)) (hO.2.2 3 rfl),i1]
 case s1=>refine qV (λ _=>rfl) rfl λ av wv hE hO hD=>?_;simp[go_sem,qE (hD.1 rfl _ rfl),Qb hE (by simp) d0,Qb hE (by simp) c2,i1]
 case s2=>refine qV (λ _=>rfl) rfl λ av wv hE hO hD=>?_;simp[go_sem,qF av 0 (.pointer (some ⟨b,0,none⟩)) (hO.2.2 0 rfl),i1]
 case s3=>refine qV (λ _=>rfl) rfl λ av wv hE hO hD=>?_;simp[go_sem,qE (hD.1 rfl _ rfl),i1]
 case s4=>refine qV (λ _=>rfl) rfl λ av wv hE hO hD=>?_;simp[go_sem,qE (hD.1 rfl _ rfl),i1]
 case s5=>refine qV (λ _=>rfl) rfl λ av wv hE hO hD=>?_;simp[go_sem,qE (hD.1 rfl _ rfl),Qb hE (by simp) d0,Qb hE (by simp) c2,i1]
 case s6=>refine qV (λ _=>rfl) rfl λ av wv hE hO hD=>?_;simp[go_sem,qE (hD.1 rfl _ rfl),i1]
 case s7=>refine Qi (λ av wv hE hS hO hD=>⟨rfl,?_⟩) (λ _=>rfl);have f6:=qE (hD.1 rfl _ rfl);have f11:=qE (hD.2.1 rfl _ rfl);simp[go_sem,f6,f11,hx]
 intro a' w' hE hO hall;have hA:=Qn (ds:=[5,6,7,8,9,10,11,12]) rfl hO (by kernel_rfl);obtain⟨j0,j1,j2,j3,j4,j5,j6,j7,-⟩:=hall;simp only[List.foldl_cons,List.foldl_nil,Act.put,List.setIfInBounds_toArray,List.set_cons_succ,List.set_cons_zero,qJ 5 (j0 _ rfl),qJ 6 (j1 _ rfl),qJ 7 (j2 _ rfl),qJ 8 (j3 _ rfl),qJ 9 (j4 _ rfl),qJ 10 (j5 _ rfl),qJ 11 (j6 _ rfl),qJ 12 (j7 _ rfl)]at hA;clear hO j0 j1 j2 j3 j4 j5 j6 j7;subst hA;have B:=QLh (Qj WB.out (Q0 hE));have X0:=QLh (Qw hE (by simp) W0.out);have X1:=QLh (Qw hE (by simp) W1.out);have HX:=QLh hx;clear hE c2 d0 hx;have x0:w'.cell? ⟨w.heap.size,0,none⟩=some (.int .u64 n):=Qa X0.out 0;have x1:w'.cell? ⟨w.heap.size,1,none⟩=some (.string rest):=Qa X0.out 1;have y0:∀o,w'.cell? ⟨w.heap.size+1,o,none⟩=_:=Qa X1.out;have y1:∀o,w'.frozen? ⟨w.heap.size+1,o,none⟩=false:=Qk X1.out
 cases x
 ·go_wp2
  refine bodyPost_ret (v:=.agg #[.int .u64 n,.string rest]) (by simp[results,Tryz.results296,go_sem,y0]) rfl ?_;have:Kj n most rest=.ok (n,rest):=by unfold Kj;rw[if_neg (by simpa using HX.out)]
  rw[this];exact⟨(by have:=B.out;(repeat (first | exact Below.refl _ _ | assumption | (refine Zy ?_) | (refine Zg ?_ _) | (refine Qf ?_ _) | (refine Ji ?_ (by first | omega | (simp;done) | (simp;omega)) _) | (refine Qj ?_ (by assumption))))),rfl⟩
 ·go_wp2_with fail
  refine(Vd 3 _).mono ?_;rintro e w1 ⟨rfl,rfl⟩;go_wp2;have:Kj n most rest=.error 3:=by unfold Kj;rw[if_pos (by simpa using HX.out)]
  rw[this];exact⟨rfl,B.out,rfl⟩
theorem QcV(w:World)(b:Nat)(s:ByteArray)(a left most:Int)(h:RdB w b s a most)(hs:s.size<=9223372036854775807)(l0:0<=left)(l1:left<=s.size):
  Calls Tryz.prog 267 #[.pointer (some ⟨b,0,none⟩),.int .i64 left] w λ e w'=>e=.returned (.tuple #[])/\w'=w.setCell ⟨b,1,none⟩ (.int .i64 (s.size - left)):=by
 have c0:w.cell? ⟨b,0,none⟩=some (.string s):=Qa h 0;have c1:w.cell? ⟨b,1,none⟩=some (.int .i64 a):=Qa h 1;have c2:w.frozen? ⟨b,1,none⟩=false:=Qk h 1;clear h
 go_enter Tryz.func267,Tryz.ntmps267
 go_wp2
 go_end0
 exact⟨rfl,rfl⟩
theorem QeA(p q x:Value):#[p,q]++((Array.replicate 24 undef).setIfInBounds 5 x).setIfInBounds 2 x=#[p,q,undef,undef,x,undef,undef,x,undef,undef,undef,undef,undef,undef,undef,undef,undef,undef,undef,undef,undef,undef,undef,undef,undef,undef]:=by simp[Array.replicate,List.replicate]
theorem Qbc(p q:Value)(w:World):
  CallsD Tryz.prog 264 #[p,q] .returning w λ e u' w'=>e=.returned (.tuple #[])/\u'=.returning/\w'=w:=by
 refine callsD_of_wpS Tryz.func264 rfl λ c₀ cs hu=>?_;apply wpS_seq;apply wpS_region;simp[wpOpsS,go_sem,recoverD,hu,Tryz.ntmps264,Exit.thenS];refine wpS_of_wp ?_;obtain⟨Q,hQ⟩:∃Q:Exit->Act->World->Prop,(λ e a' w'=>bodyPostS Tryz.prog Tryz.f264 c₀ cs (λ e u' w'=>e=Ending.returned (.tuple #[])/\u'=.returning/\w'=w) e a' (c₀ :: cs) w')=Q:=⟨_,rfl⟩;rw[hQ,QeA];have HQ:=QLh hQ;clear hQ;go_wp2;rw[<-HQ.out];simp[bodyPostS,results,Tryz.results264]
 cases c₀;simp_all
theorem Qip(k:Int)(w:World):(Instr.typeAssert (.iface 27 (.int .i64 k)) 20 27 true).run Tryz.prog w=.ok (.tuple #[.int .i64 k,.bool true]) w:=by kernel_rfl
theorem QfX(k:Int)(older:List PanicEntry)(p:Value)(a:Int)(eb:Nat)(x:Value)(w:World)(hp:Calls Tryz.prog 292 #[p] w λ e w'=>e=.returned (.int .i64 a)/\w'=w)
  (hc:w.cell? ⟨eb,0,none⟩=some x) (hx:x.oneCell'=true) (hz:w.frozen? ⟨eb,0,none⟩=false):
  CallsD Tryz.prog 264 #[p,.pointer (some ⟨eb,0,none⟩)] (.panicking ({ v:=.iface 27 (.int .i64 k),recovered:=false } :: older)) w λ e u' w'=>
   e=.returned (.tuple #[])/\u'=.panicking ({ v:=.iface 27 (.int .i64 k),recovered:=true } :: older)/\
   w'=(w.setCell ⟨eb,0,none⟩ (.iface 290 (.pointer (some ⟨w.heap.size,0,none⟩)))).alloc (.cells #[.int .i64 k,.int .i64 a] 145):=by
 refine callsD_of_wpS Tryz.func264 rfl λ c₀ cs hu=>?_;apply wpS_seq;apply wpS_region;simp[wpOpsS,go_sem,recoverD,hu,Tryz.ntmps264,Exit.thenS];refine wpS_of_wp ?_;obtain⟨Q,hQ⟩:∃Q:Exit->Act->World->Prop,(λ e a' w'=>bodyPostS Tryz.prog Tryz.f264 c₀ cs (λ e u' w'=>e=Ending.returned (.tuple #[])/\u'=.panicking ({ v:=.iface 27 (.int .i64 k),recovered:=true } :: older)/\w'=(w.setCell ⟨eb,0,none⟩ (.iface 290 (.pointer (some ⟨w.heap.size,0,none⟩)))).alloc (.cells #[.int .i64 k,.int .i64 a] 145)) e a' ({ c₀ with mode:=.panicking ({ v:=.iface 27 (.int .i64 k),recovered:=true } :: older) } :: cs) w')=Q:=⟨_,rfl⟩;rw[hQ,QeA];have HQ:=QLh hQ;clear hQ hu;have ha:=Qip k;have hl:=Ql hc;go_wp2_with fail;refine hp.mono ?_;rintro e w1 ⟨rfl,rfl⟩;go_wp2;rw[<-HQ.out];exact⟨rfl,_,rfl,.tuple #[],by simp[results,Tryz.results264],rfl,rfl,rfl⟩
theorem QbH{t:ByteArray}{l:List Yz}{n:Int}{rest:ByteArray}(hok:∀i,(Ye l i).Ok)(h:Zz t l=.ok (n,rest)):0<=n/\n<=18446744073709551615/\rest.size<t.size:=by
 unfold Zz at h
 split at h
 ·cases h
 ·next h0=>
  split at h
  ·cases h
  ·next r hr=>
   have hp:=List.find?_some hr;obtain⟨i,hi,rfl⟩:=List.getElem_of_mem (List.mem_of_find?_eq_some hr);have ok:=hok i;rw[QaJ l i hi]at ok;simp only[Bool.and_eq_true,decide_eq_true_eq]at hp;obtain⟨v,hv⟩:∃v,(if l[i].size=0 then Jl t 0 - l[i].lo else be t l[i].size.toNat)=v:=⟨_,rfl⟩;simp only[hv]at h
   by_cases h1:(t.size:Int)<1+l[i].size
   ·rw[if_pos h1]at h;cases h
   ·rw[if_neg h1]at h
    by_cases h2:v<l[i].least
    ·rw[if_pos h2]at h;cases h
    ·rw[if_neg h2]at h
     simp only[Except.ok.injEq,Prod.mk.injEq]at h;obtain⟨rfl,rfl⟩:=h;have vb:=QdY (s:=t) (r:=l[i]) (j:=l[i].size.toNat) (by have:=ok.sz1;have:=ok.sz0;omega) ok hp.1;unfold Yi at vb;rw[hv]at vb;refine⟨vb.1,vb.2,?_⟩;rw[ByteArray.size_extract];omega
def Qc2(res:Except Int (Value × Nat))(zero:Value)(b:Nat)(s:ByteArray)(most:Int)(a:Nat)(w:World)(e:Ending)(w':World):Prop:=
 Xe (some b) w w'/\match res with
  | .ok x=>e=.returned (.tuple #[x.1,.nilIface])/\RdB w' b s x.2 most
  | .error k=>RdB w' b s a most/\∃f,e=.returned (.tuple #[zero,.iface 290 (.pointer (some ⟨f,0,none⟩))])/\w.heap.size<=f/\w'.heap[f]?=some (.cells #[.int .i64 k,.int .i64 a] 145 (0,0))
def Ku(s:ByteArray)(a:Nat)(most:Int)(l:List Yz):Except Int (Value × Nat):=
 match Zz (s.extract a s.size) l with
 | .error k=>.error k
 | .ok (n,rest)=>if most<n then .error 3 else if(rest.size:Int)<n then .error 4 else .ok (.string (rest.extract 0 n.toNat),s.size - (rest.size - n.toNat))
def Km(s:ByteArray)(a:Nat)(most:Int)(l:List Yz):Except Int (Value × Nat):=
 match Zz (s.extract a s.size) l with
 | .error k=>.error k
 | .ok (n,rest)=>if most<n then .error 3 else .ok (.int .i64 n,s.size - rest.size)
def Qgt(s:ByteArray)(a:Nat)(l:List Yz):Except Int (Value × Nat):=
 match Zz (s.extract a s.size) l with
 | .error k=>.error k
 | .ok (n,rest)=>.ok (.int .u64 n,s.size - rest.size)
theorem Qbn{w w1 w':World}{b:Nat}(h:Below w.heap.size w w1)(hE:Xe (some w.heap.size) w1 w'):Xe (some b) w w':=
 ⟨hE.os.trans h.os,hE.tape.trans h.tape,hE.output.trans h.output,Nat.le_trans h.size hE.size,λ i hi _=>(hE.block i (Nat.lt_of_lt_of_le hi h.size) (by intro e;cases e;omega)).trans (h.block i hi)⟩
theorem QjD{w w1:World}{b eb:Nat}(h:Xe (some b) w w1)(he:w.heap.size<=eb)(v:Value):Xe (some b) w (w1.setCell ⟨eb,0,none⟩ v):=
 ⟨h.os,h.tape,h.output,by simpa using h.size,λ i hi hn=>by rw[Below.heap_setCell _ _ _ _ (by show i≠eb;omega)];exact h.block i hi hn⟩
theorem Qbf{fn:Func}{tmps:Array Value}{R:Ending->World->Prop}(k:Int)(b:Nat)(s:ByteArray)(a:Nat)(most:Int)(w1:World)(eb:Nat)(zero:Value)(h:RdB w1 b s a most)
  (he:w1.heap[eb]?=some (.cells #[.nilIface] 89 (0,0))) (hne:eb≠b)
  (hr:∀w:World,w.cell? ⟨eb,0,none⟩=some (.iface 290 (.pointer (some ⟨w1.heap.size,0,none⟩)))->(results fn tmps).run Tryz.prog w=.ok (.tuple #[zero,.iface 290 (.pointer (some ⟨w1.heap.size,0,none⟩))]) w)
  (hR:∀w':World,Xe (some eb) w1 w'->RdB w' b s a most->w'.heap[w1.heap.size]?=some (.cells #[.int .i64 k,.int .i64 a] 145 (0,0))->R (.returned (.tuple #[zero,.iface 290 (.pointer (some ⟨w1.heap.size,0,none⟩))])) w'):
  Leaves Tryz.prog fn tmps R [{ target:=.fn (.func 264) #[],args:=#[.pointer (some ⟨b,0,none⟩),.pointer (some ⟨eb,0,none⟩)] }] (.panicking (QcR k)) w1:=by
 refine leaves_cons (f:=264) (args:=#[.pointer (some ⟨b,0,none⟩),.pointer (some ⟨eb,0,none⟩)]) (by simp) (by simp[go_sem]) ?_;refine(QfX k [] (.pointer (some ⟨b,0,none⟩)) a eb .nilIface w1 (Qiv w1 b s a most h) (Qa he 0) rfl (Qk he 0)).mono ?_;rintro e u' w'' ⟨rfl,rfl,rfl⟩;have hl:=lt_of_block he;have hs:(w1.setCell ⟨eb,0,none⟩ (.iface 290 (.pointer (some ⟨w1.heap.size,0,none⟩)))).heap.size=w1.heap.size:=by simp
 have hb0:(w1.setCell ⟨eb,0,none⟩ (.iface 290 (.pointer (some ⟨w1.heap.size,0,none⟩)))).heap[eb]?=_:=Qc he _;have hb:=Qe hb0 (.cells #[.int .i64 k,.int .i64 a] 145);refine⟨_,hr _ (Qa hb 0),hR _ ?_ ?_ ?_⟩
 ·refine⟨rfl,rfl,rfl,by simp,λ i hi hn=>?_⟩
  rw[Below.heap_alloc _ _ _ (by rw[hs];exact hi),Below.heap_setCell _ _ _ _ (by intro e;subst e;exact hn rfl)]
 ·exact Qe (Qh h (by exact λ e=>hne e.symm) _) _
 ·exact Qg _ hs
theorem Qkk(w:World)(b:Nat)(s:ByteArray)(a:Nat)(most:Int)(ra:Option Addr)(rc:Nat)(l:List Yz)(h:RdB w b s a most)(ha:a<=s.size)(hs:s.size<=9223372036854775807)(hm0:0<=most)(hm1:most<=9223372036854775807)
  (hl0:0<len l) (hl:len l<=100) (hc:Qfh w ra l) (hok:∀i,(Ye l i).Ok):
  Calls Tryz.prog 281 #[.pointer (some ⟨b,0,none⟩),.slice ra (len l) rc] w (Qc2 (Ku s a most l) (.string ⟨#[]⟩) b s most a w):=by
 have HC:=QLh hc;have HO:=QLh hok;have H:=QLh h;have hbl:=lt_of_block h;clear hc hok h
 go_enter_defers Tryz.func281,Tryz.ntmps281
 go_wp2_with fail;obtain⟨W,hW⟩:∃W,w.alloc (.cells #[.nilIface] 89)=W:=⟨_,rfl⟩;have WB:Hid (Below w.heap.size w W):=QLh (by rw[<-hW];(repeat (first | exact Below.refl _ _ | assumption | (refine Zy ?_) | (refine Zg ?_ _) | (refine Qf ?_ _) | (refine Ji ?_ (by first | omega | (simp;done) | (simp;omega)) _) | (refine Qj ?_ (by assumption)))))
 have W0:Hid (W.heap[w.heap.size]?=some (.cells #[.nilIface] 89 (0,0))):=QLh (by rw[<-hW];(repeat (first | exact Qg _ (by repeat (first | rfl | refine Q3 _ ?_)) | refine Qe ?_ _)))
 rw[hW];clear hW;refine(Qce W b s a most (H.out.below WB.out) ha hs).mono ?_;rintro e w1 ⟨rfl,hb1⟩;have B1:=QLh hb1;clear hb1;go_wp2_with fail;have hts:(s.extract a s.size).size<=9223372036854775807:=by rw[ByteArray.size_extract];omega
 refine(Qeb (s.extract a s.size) ra rc l w1 hts hl0 hl (HC.out.below (Qj WB.out B1.out)) HO.out).mono ?_;intro e w2 hh
 cases hres:Zz (s.extract a s.size) l with
 | error k=>
  rw[hres]at hh;obtain⟨rfl,hb2⟩:=U0 hh;have B2:=QLh (Qj B1.out hb2);have T:Hid (Ku s a most l=.error k):=QLh (by unfold Ku;rw[hres]);clear hh hb2 hres;go_wp2;rw[T.out];refine Qbf k b s a most w2 w.heap.size (.string ⟨#[]⟩) (H.out.below (Qj WB.out B2.out)) ((B2.out.block _ (lt_of_block W0.out)).trans W0.out) (by omega) (λ w hc=>by simp[results,Tryz.results281,go_sem,hc]) (λ w' hE hR hf=>?_);have hz:=(Qj WB.out B2.out).size;exact⟨Qbn (Qj WB.out B2.out) hE,hR,_,rfl,hz,hf⟩
 | ok x=>
  obtain⟨n,rest⟩:=x;rw[hres]at hh;obtain⟨rfl,hb2⟩:=QaC hh;have B2:=QLh (Qj B1.out hb2);obtain⟨n0,n1,hrest⟩:=QbH HO.out hres;have HRES:=QLh hres;have hrs:rest.size<(s.extract a s.size).size:=hrest;have hss:(s.extract a s.size).size=s.size - a:=by rw[ByteArray.size_extract];omega
  have hr2:rest.size<s.size - a:=by omega
  clear hh hb2 hres hrest hts hss hrs;go_wp2_with fail;refine(Qhp w2 b s rest a most n (H.out.below (Qj WB.out B2.out)) hm0 hm1).mono ?_;intro e w3 hh
  by_cases hmn:most<n
  ·have hbo:Kj n most rest=.error 3:=by unfold Kj;rw[if_pos hmn]
   rw[hbo]at hh;obtain⟨rfl,hb3⟩:=U0 hh;have B3:=QLh (Qj B2.out hb3);have T:Hid (Ku s a most l=.error 3):=QLh (by unfold Ku;rw[HRES.out];exact if_pos hmn);clear hh hb3 hbo;go_wp2;rw[T.out];refine Qbf 3 b s a most w3 w.heap.size (.string ⟨#[]⟩) (H.out.below (Qj WB.out B3.out)) ((B3.out.block _ (lt_of_block W0.out)).trans W0.out) (by omega) (λ w hc=>by simp[results,Tryz.results281,go_sem,hc]) (λ w' hE hR hf=>?_);have hz:=(Qj WB.out B3.out).size;exact⟨Qbn (Qj WB.out B3.out) hE,hR,_,rfl,hz,hf⟩
  ·have hbo:Kj n most rest=.ok (n,rest):=by unfold Kj;rw[if_neg hmn]
   rw[hbo]at hh;obtain⟨rfl,hb3⟩:=QaC hh;have B3:=QLh (Qj B2.out hb3);clear hh hb3 hbo;obtain⟨q,hq⟩:∃q:Nat,n=q:=⟨n.toNat,by omega⟩;subst hq;have i1:IntKind.u64.wrap (rest.size:Int)=rest.size:=IntWalk.u64_in _ (by omega);have i2:IntKind.i64.wrap (q:Int)=q:=IntWalk.i64_in _ (by omega)
   by_cases hrq:rest.size<q
   ·have T:Hid (Ku s a most l=.error 4):=QLh (by
     unfold Ku;rw[HRES.out];show(if most<(q:Int)then _ else _)=_;rw[if_neg hmn,if_pos (by omega)])
    have t1:(rest.size:Int)<q:=by omega
    go_wp2_with fail;refine(Vd 4 _).mono ?_;rintro e w4 ⟨rfl,hw4⟩;have B4:Hid (Below W.heap.size W w4):=QLh (by rw[hw4];exact Qf B3.out _);clear hw4;go_wp2;rw[T.out];refine Qbf 4 b s a most w4 w.heap.size (.string ⟨#[]⟩) (H.out.below (Qj WB.out B4.out)) ((B4.out.block _ (lt_of_block W0.out)).trans W0.out) (by omega) (λ w hc=>by simp[results,Tryz.results281,go_sem,hc]) (λ w' hE hR hf=>?_);have hz:=(Qj WB.out B4.out).size;exact⟨Qbn (Qj WB.out B4.out) hE,hR,_,rfl,hz,hf⟩
   ·have T:Hid (Ku s a most l=.ok (.string (rest.extract 0 q),s.size - (rest.size - q))):=QLh (by
     unfold Ku;rw[HRES.out];show(if most<(q:Int)then _ else _)=_;rw[if_neg hmn,if_neg (by omega)];rfl)
    have t1:¬(rest.size:Int)<q:=by omega
    have hb3:b<w3.heap.size:=Nat.lt_of_lt_of_le hbl (Qj WB.out B3.out).size;have he3:w.heap.size<w3.heap.size:=Nat.lt_of_lt_of_le (lt_of_block W0.out) B3.out.size;go_wp2_with fail;refine(QcV _ b s a (rest.size - q) most (Qe (H.out.below (Qj WB.out B3.out)) _) hs (by omega) (by omega)).mono ?_;rintro e w5 ⟨rfl,hw5⟩;have R5:Hid (RdB w5 b s ((s.size - (rest.size - q):Nat):Int) most):=QLh (by
     rw[hw5];have h:=Qc (Qe (H.out.below (Qj WB.out B3.out)) (.cells #[.int .u64 q,.string rest] 306)) (o:=1) (.int .i64 ((s.size:Int) - (rest.size - q)));rw[show((s.size - (rest.size - q):Nat):Int)=(s.size:Int) - (rest.size - q)by omega];exact h)
    have E5:w5.heap[w.heap.size]?=some (.cells #[.nilIface] 89 (0,0)):=by rw[hw5];exact Qh (Qe ((B3.out.block _ (lt_of_block W0.out)).trans W0.out) _) (by show w.heap.size≠b;omega) _
    have N5:w5.heap[w3.heap.size]?=some (.cells #[.int .u64 q,.string rest] 306 (0,0)):=by rw[hw5];exact Qh (Qg _ rfl) (by show w3.heap.size≠b;omega) _
    have X5:Hid (Xe (some b) w w5):=QLh (by
     rw[hw5];have hB:=Qf (Qj WB.out B3.out) (.cells #[.int .u64 q,.string rest] 306);exact⟨hB.os,hB.tape,hB.output,by simpa using hB.size,λ i hi hn=>by rw[Below.heap_setCell _ _ _ _ (by exact λ e=>hn (by rw[e]))];exact hB.block i hi⟩)
    have a0:w5.cell? ⟨w3.heap.size,0,none⟩=some (.int .u64 q):=Qa N5 0;have a1:w5.cell? ⟨w3.heap.size,1,none⟩=some (.string rest):=Qa N5 1;have a2:w5.cell? ⟨w.heap.size,0,none⟩=some .nilIface:=Qa E5 0;have a3:w5.frozen? ⟨w.heap.size,0,none⟩=false:=Qk E5 0;have hz5:=lt_of_block E5;have qr:q<=rest.size:=by omega
    clear hw5 E5 N5;go_wp2;rw[T.out];refine leaves_cons (f:=264) (args:=#[.pointer (some ⟨b,0,none⟩),.pointer (some ⟨w.heap.size,0,none⟩)]) (by simp) (by simp[go_sem]) ?_;refine(Qbc (.pointer (some ⟨b,0,none⟩)) (.pointer (some ⟨w.heap.size,0,none⟩)) _).mono ?_;rintro e u' w'' ⟨rfl,rfl,rfl⟩;refine⟨_,by simp[results,Tryz.results281,go_sem,a2];rfl,?_⟩;refine⟨?_,rfl,?_⟩
    ·exact QjD X5.out (Nat.le_refl _) _
    ·exact Qh R5.out (by show b≠w.heap.size;omega) _
theorem QmF(w:World)(b:Nat)(s:ByteArray)(a:Nat)(most:Int)(ra:Option Addr)(rc:Nat)(l:List Yz)(h:RdB w b s a most)(ha:a<=s.size)(hs:s.size<=9223372036854775807)(hm0:0<=most)(hm1:most<=9223372036854775807)
  (hl0:0<len l) (hl:len l<=100) (hc:Qfh w ra l) (hok:∀i,(Ye l i).Ok):
  Calls Tryz.prog 280 #[.pointer (some ⟨b,0,none⟩),.slice ra (len l) rc] w (Qc2 (Km s a most l) (.int .i64 0) b s most a w):=by
 have HC:=QLh hc;have HO:=QLh hok;have H:=QLh h;have hbl:=lt_of_block h;clear hc hok h
 go_enter_defers Tryz.func280,Tryz.ntmps280
 go_wp2_with fail;obtain⟨W,hW⟩:∃W,w.alloc (.cells #[.nilIface] 89)=W:=⟨_,rfl⟩;have WB:Hid (Below w.heap.size w W):=QLh (by rw[<-hW];(repeat (first | exact Below.refl _ _ | assumption | (refine Zy ?_) | (refine Zg ?_ _) | (refine Qf ?_ _) | (refine Ji ?_ (by first | omega | (simp;done) | (simp;omega)) _) | (refine Qj ?_ (by assumption)))))
 have W0:Hid (W.heap[w.heap.size]?=some (.cells #[.nilIface] 89 (0,0))):=QLh (by rw[<-hW];(repeat (first | exact Qg _ (by repeat (first | rfl | refine Q3 _ ?_)) | refine Qe ?_ _)))
 rw[hW];clear hW;refine(Qce W b s a most (H.out.below WB.out) ha hs).mono ?_;rintro e w1 ⟨rfl,hb1⟩;have B1:=QLh hb1;clear hb1;go_wp2_with fail;have hts:(s.extract a s.size).size<=9223372036854775807:=by rw[ByteArray.size_extract];omega
 refine(Qeb (s.extract a s.size) ra rc l w1 hts hl0 hl (HC.out.below (Qj WB.out B1.out)) HO.out).mono ?_;intro e w2 hh
 cases hres:Zz (s.extract a s.size) l with
 | error k=>
  rw[hres]at hh;obtain⟨rfl,hb2⟩:=U0 hh;have B2:=QLh (Qj B1.out hb2);have T:Hid (Km s a most l=.error k):=QLh (by unfold Km;rw[hres]);clear hh hb2 hres;go_wp2;rw[T.out];refine Qbf k b s a most w2 w.heap.size (.int .i64 0) (H.out.below (Qj WB.out B2.out)) ((B2.out.block _ (lt_of_block W0.out)).trans W0.out) (by omega) (λ w hc=>by simp[results,Tryz.results280,go_sem,hc]) (λ w' hE hR hf=>?_);have hz:=(Qj WB.out B2.out).size;exact⟨Qbn (Qj WB.out B2.out) hE,hR,_,rfl,hz,hf⟩
 | ok x=>
  obtain⟨n,rest⟩:=x;rw[hres]at hh;obtain⟨rfl,hb2⟩:=QaC hh;have B2:=QLh (Qj B1.out hb2);obtain⟨n0,n1,hrest⟩:=QbH HO.out hres;have HRES:=QLh hres;have hrs:rest.size<(s.extract a s.size).size:=hrest;have hss:(s.extract a s.size).size=s.size - a:=by rw[ByteArray.size_extract];omega
  have hr2:rest.size<s.size - a:=by omega
  clear hh hb2 hres hrest hts hss hrs;go_wp2_with fail;refine(Qhp w2 b s rest a most n (H.out.below (Qj WB.out B2.out)) hm0 hm1).mono ?_;intro e w3 hh
  by_cases hmn:most<n
  ·have hbo:Kj n most rest=.error 3:=by unfold Kj;rw[if_pos hmn]
   rw[hbo]at hh;obtain⟨rfl,hb3⟩:=U0 hh;have B3:=QLh (Qj B2.out hb3);have T:Hid (Km s a most l=.error 3):=QLh (by unfold Km;rw[HRES.out];exact if_pos hmn);clear hh hb3 hbo;go_wp2;rw[T.out];refine Qbf 3 b s a most w3 w.heap.size (.int .i64 0) (H.out.below (Qj WB.out B3.out)) ((B3.out.block _ (lt_of_block W0.out)).trans W0.out) (by omega) (λ w hc=>by simp[results,Tryz.results280,go_sem,hc]) (λ w' hE hR hf=>?_);have hz:=(Qj WB.out B3.out).size;exact⟨Qbn (Qj WB.out B3.out) hE,hR,_,rfl,hz,hf⟩
  ·have hbo:Kj n most rest=.ok (n,rest):=by unfold Kj;rw[if_neg hmn]
   rw[hbo]at hh;obtain⟨rfl,hb3⟩:=QaC hh;have B3:=QLh (Qj B2.out hb3);clear hh hb3 hbo;obtain⟨q,hq⟩:∃q:Nat,n=q:=⟨n.toNat,by omega⟩;subst hq;have i2:IntKind.i64.wrap (q:Int)=q:=IntWalk.i64_in _ (by omega);have T:Hid (Km s a most l=.ok (.int .i64 q,s.size - rest.size)):=QLh (by
    unfold Km;rw[HRES.out];show(if most<(q:Int)then _ else _)=_;rw[if_neg hmn])
   have hb3:b<w3.heap.size:=Nat.lt_of_lt_of_le hbl (Qj WB.out B3.out).size;have he3:w.heap.size<w3.heap.size:=Nat.lt_of_lt_of_le (lt_of_block W0.out) B3.out.size;go_wp2_with fail;refine(QcV _ b s a rest.size most (Qe (H.out.below (Qj WB.out B3.out)) _) hs (by omega) (by omega)).mono ?_;rintro e w5 ⟨rfl,hw5⟩;have R5:Hid (RdB w5 b s ((s.size - rest.size:Nat):Int) most):=QLh (by
    rw[hw5];have h:=Qc (Qe (H.out.below (Qj WB.out B3.out)) (.cells #[.int .u64 q,.string rest] 306)) (o:=1) (.int .i64 ((s.size:Int) - rest.size));rw[show((s.size - rest.size:Nat):Int)=(s.size:Int) - rest.size by omega];exact h)
   have E5:w5.heap[w.heap.size]?=some (.cells #[.nilIface] 89 (0,0)):=by rw[hw5];exact Qh (Qe ((B3.out.block _ (lt_of_block W0.out)).trans W0.out) _) (by show w.heap.size≠b;omega) _
   have N5:w5.heap[w3.heap.size]?=some (.cells #[.int .u64 q,.string rest] 306 (0,0)):=by rw[hw5];exact Qh (Qg _ rfl) (by show w3.heap.size≠b;omega) _
   have X5:Hid (Xe (some b) w w5):=QLh (by
    rw[hw5];have hB:=Qf (Qj WB.out B3.out) (.cells #[.int .u64 q,.string rest] 306);exact⟨hB.os,hB.tape,hB.output,by simpa using hB.size,λ i hi hn=>by rw[Below.heap_setCell _ _ _ _ (by exact λ e=>hn (by rw[e]))];exact hB.block i hi⟩)
   have a0:w5.cell? ⟨w3.heap.size,0,none⟩=some (.int .u64 q):=Qa N5 0;have a2:w5.cell? ⟨w.heap.size,0,none⟩=some .nilIface:=Qa E5 0;have a3:w5.frozen? ⟨w.heap.size,0,none⟩=false:=Qk E5 0;have hz5:=lt_of_block E5;clear hw5 E5 N5;go_wp2;rw[T.out];refine leaves_cons (f:=264) (args:=#[.pointer (some ⟨b,0,none⟩),.pointer (some ⟨w.heap.size,0,none⟩)]) (by simp) (by simp[go_sem]) ?_;refine(Qbc (.pointer (some ⟨b,0,none⟩)) (.pointer (some ⟨w.heap.size,0,none⟩)) _).mono ?_;rintro e u' w'' ⟨rfl,rfl,rfl⟩;refine⟨_,by simp[results,Tryz.results280,go_sem,a2];rfl,?_⟩;refine⟨?_,rfl,?_⟩
   ·exact QjD X5.out (Nat.le_refl _) _
   ·exact Qh R5.out (by show b≠w.heap.size;omega) _
def Vq:List Yz:=[⟨0,127,0,0⟩,⟨204,204,1,128⟩,⟨205,205,2,256⟩,⟨206,206,4,65536⟩,⟨207,207,8,4294967296⟩]
def Qfm:List Yz:=[⟨196,196,1,0⟩,⟨197,197,2,256⟩]
def QdH:List Yz:=[⟨160,191,0,0⟩,⟨217,217,1,32⟩,⟨218,218,2,256⟩]
def Qd6:List Yz:=[⟨144,159,0,0⟩,⟨220,220,2,16⟩]
def Qas:List Yz:=[⟨128,143,0,0⟩,⟨222,222,2,16⟩]
theorem Qco{l:List Yz}(h:(l.all λ r=>decide (0<=r.lo) && decide (r.hi<=255) && decide (0<=r.size) && decide (r.size<=8) && decide (0<=r.least) && decide (r.least<=4294967296))=true):∀i,(Ye l i).Ok:=λ i=>by
 rcases Nat.lt_or_ge i l.length with hi | hi
 ·rw[QaJ l i hi]
  have:=List.all_eq_true.1 h l[i] (List.getElem_mem _);simp only[Bool.and_eq_true,decide_eq_true_eq]at this;obtain⟨⟨⟨⟨⟨a,b⟩,c⟩,d⟩,e⟩,f⟩:=this;exact⟨a,b,c,d,e,f⟩
 ·have:Ye l i=Yz.zero:=by unfold Ye;rw[List.getD_eq_getElem?_getD,List.getElem?_eq_none hi];rfl
  rw[this];exact⟨by decide,by decide,by decide,by decide,by decide,by decide⟩
theorem Qbk:∀i,(Ye Vq i).Ok:=Qco (by decide)
theorem Qcl:∀i,(Ye Qfm i).Ok:=Qco (by decide)
theorem Qca:∀i,(Ye QdH i).Ok:=Qco (by decide)
theorem Qcv:∀i,(Ye Qd6 i).Ok:=Qco (by decide)
theorem QaV:∀i,(Ye Qas i).Ok:=Qco (by decide)
def Qbp(B:Nat)(w:World)(g:Nat)(l:List Yz):Prop:=∃tb tq rc,g<B/\tb<B/\B<=w.heap.size/\w.cell? ⟨g,0,none⟩=some (.slice (some ⟨tb,tq,none⟩) (len l) rc)/\Qfh w (some ⟨tb,tq,none⟩) l
theorem Qbp.ext{B:Nat}{w w':World}{g b:Nat}{l:List Yz}(h:Qbp B w g l)(hE:Xe (some b) w w')(hb:B<=b):Qbp B w' g l:=by
 obtain⟨tb,tq,rc,h1,h2,h5,h3,h4⟩:=h;have e:∀x o,x<B->w'.cell? ⟨x,o,none⟩=w.cell? ⟨x,o,none⟩:=λ x o hx=>World.cell?_of_block (w:=w) (hE.block x (by omega) (by intro e;cases e;omega));refine⟨tb,tq,rc,h1,h2,Nat.le_trans h5 hE.size,by rw[e g 0 h1];exact h3,λ i hi=>?_⟩;obtain⟨b',off',e2,⟨c0,c1,c2,c3⟩⟩:=h4 i hi
 cases e2
 exact⟨tb,tq,rfl,by rw[e tb _ h2];exact c0,by rw[e tb _ h2];exact c1,by rw[e tb _ h2];exact c2,by rw[e tb _ h2];exact c3⟩
theorem Zm{w w':World}(h:Below w.heap.size w w')(b:Nat):Xe (some b) w w':=⟨h.os,h.tape,h.output,h.size,λ i hi _=>h.block i hi⟩
theorem Qbp.below{B:Nat}{w w':World}{g:Nat}{l:List Yz}(h:Qbp B w g l)(hb:Below w.heap.size w w'):Qbp B w' g l:=by obtain⟨tb,tq,rc,h1,h2,h5,h3,h4⟩:=h;exact Qbp.ext ⟨tb,tq,rc,h1,h2,h5,h3,h4⟩ (Zm hb B) (Nat.le_refl _)
def QgS(B:Nat)(w:World):Prop:=True
theorem QgS.imp{B:Nat}{w w':World}(h:QgS B w)(k:∀g l,Qbp B w g l->Qbp B w' g l):QgS B w':=trivial
structure QjO(B:Nat)(w:World):Prop where
 nums:Qbp B w 0 Vq
 lists:QgS B w
 bins:Qbp B w 6 Qfm
 strs:Qbp B w 2 QdH
 pairs:Qbp B w 1 Qas
theorem QjO.ext{B:Nat}{w w':World}{b:Nat}(h:QjO B w)(hE:Xe (some b) w w')(hb:B<=b):QjO B w':=⟨h.nums.ext hE hb,h.lists.imp (λ _ _ h=>h.ext hE hb),h.bins.ext hE hb,h.strs.ext hE hb,h.pairs.ext hE hb⟩
theorem QjO.below{B:Nat}{w w':World}(h:QjO B w)(hb:Below w.heap.size w w'):QjO B w':=⟨h.nums.below hb,h.lists.imp (λ _ _ h=>h.below hb),h.bins.below hb,h.strs.below hb,h.pairs.below hb⟩
theorem Qs4(w:World)(B b:Nat)(s:ByteArray)(a:Nat)(most:Int)(ht:QjO B w)(h:RdB w b s a most)(ha:a<=s.size)(hs:s.size<=9223372036854775807)(hm0:0<=most)(hm1:most<=9223372036854775807):
  Calls Tryz.prog 268 #[.pointer (some ⟨b,0,none⟩)] w (Qc2 (Ku s a most Qfm) (.string ⟨#[]⟩) b s most a w):=by
 obtain⟨tb,tq,rc,-,-,-,cg,hrow⟩:=ht.bins;have HC:=QLh hrow;have H:=QLh h;clear ht hrow h
 go_enter Tryz.func268,Tryz.ntmps268
 go_wp2_with fail;refine(Qkk w b s a most (some ⟨tb,tq,none⟩) rc Qfm H.out ha hs hm0 hm1 (by decide) (by decide) HC.out Qcl).mono ?_;intro e w1 hh;clear cg;obtain⟨hE,hm⟩:=hh;have HE:=QLh hE
 cases hres:Ku s a most Qfm with
 | error k=>
  rw[hres]at hm;obtain⟨hR,f,rfl,hf,hb⟩:=hm;have HR:=QLh hR;have HB:=QLh hb;have HRES:=QLh hres;clear hR hb hE hres;go_wp2
  go_ret2
  rw[HRES.out];exact⟨HE.out,HR.out,f,rfl,hf,HB.out⟩
 | ok x=>
  rw[hres]at hm;obtain⟨rfl,hR⟩:=hm;have HR:=QLh hR;have HRES:=QLh hres;clear hR hE hres;go_wp2
  go_ret2
  rw[HRES.out];exact⟨HE.out,rfl,HR.out⟩
theorem QrK(w:World)(B b:Nat)(s:ByteArray)(a:Nat)(most:Int)(ht:QjO B w)(h:RdB w b s a most)(ha:a<=s.size)(hs:s.size<=9223372036854775807)(hm0:0<=most)(hm1:most<=9223372036854775807):
  Calls Tryz.prog 247 #[.pointer (some ⟨b,0,none⟩)] w (Qc2 (Ku s a most QdH) (.string ⟨#[]⟩) b s most a w):=by
 obtain⟨tb,tq,rc,-,-,-,cg,hrow⟩:=ht.strs;have HC:=QLh hrow;have H:=QLh h;clear ht hrow h
 go_enter Tryz.func247,Tryz.ntmps247
 go_wp2_with fail;refine(Qkk w b s a most (some ⟨tb,tq,none⟩) rc QdH H.out ha hs hm0 hm1 (by decide) (by decide) HC.out Qca).mono ?_;intro e w1 hh;clear cg;obtain⟨hE,hm⟩:=hh;have HE:=QLh hE
 cases hres:Ku s a most QdH with
 | error k=>
  rw[hres]at hm;obtain⟨hR,f,rfl,hf,hb⟩:=hm;have HR:=QLh hR;have HB:=QLh hb;have HRES:=QLh hres;clear hR hb hE hres;go_wp2
  go_ret2
  rw[HRES.out];exact⟨HE.out,HR.out,f,rfl,hf,HB.out⟩
 | ok x=>
  rw[hres]at hm;obtain⟨rfl,hR⟩:=hm;have HR:=QLh hR;have HRES:=QLh hres;clear hR hE hres;go_wp2
  go_ret2
  rw[HRES.out];exact⟨HE.out,rfl,HR.out⟩
theorem Qs3(w:World)(B b:Nat)(s:ByteArray)(a:Nat)(most:Int)(ht:QjO B w)(h:RdB w b s a most)(ha:a<=s.size)(hs:s.size<=9223372036854775807)(hm0:0<=most)(hm1:most<=9223372036854775807):
  Calls Tryz.prog 245 #[.pointer (some ⟨b,0,none⟩)] w (Qc2 (Km s a most Qas) (.int .i64 0) b s most a w):=by
 obtain⟨tb,tq,rc,-,-,-,cg,hrow⟩:=ht.pairs;have HC:=QLh hrow;have H:=QLh h;clear ht hrow h
 go_enter Tryz.func245,Tryz.ntmps245
 go_wp2_with fail;refine(QmF w b s a most (some ⟨tb,tq,none⟩) rc Qas H.out ha hs hm0 hm1 (by decide) (by decide) HC.out QaV).mono ?_;intro e w1 hh;clear cg;obtain⟨hE,hm⟩:=hh;have HE:=QLh hE
 cases hres:Km s a most Qas with
 | error k=>
  rw[hres]at hm;obtain⟨hR,f,rfl,hf,hb⟩:=hm;have HR:=QLh hR;have HB:=QLh hb;have HRES:=QLh hres;clear hR hb hE hres;go_wp2
  go_ret2
  rw[HRES.out];exact⟨HE.out,HR.out,f,rfl,hf,HB.out⟩
 | ok x=>
  rw[hres]at hm;obtain⟨rfl,hR⟩:=hm;have HR:=QLh hR;have HRES:=QLh hres;clear hR hE hres;go_wp2
  go_ret2
  rw[HRES.out];exact⟨HE.out,rfl,HR.out⟩
theorem Qss(w:World)(B b:Nat)(s:ByteArray)(a:Nat)(most:Int)(ht:QjO B w)(h:RdB w b s a most)(ha:a<=s.size)(hs:s.size<=9223372036854775807):
  Calls Tryz.prog 208 #[.pointer (some ⟨b,0,none⟩)] w (Qc2 (Qgt s a Vq) (.int .u64 0) b s most a w):=by
 obtain⟨tb,tq,rc,-,-,-,cg,hrow⟩:=ht.nums;have hgl:=Ql cg;have HC0:=QLh hrow;have H:=QLh h;have hbl:=lt_of_block h;have HG:=QLh cg;clear ht hrow h cg
 go_enter_defers Tryz.func208,Tryz.ntmps208
 go_wp2;obtain⟨W,hW⟩:∃W,w.alloc (.cells #[.nilIface] 89)=W:=⟨_,rfl⟩;have WB:Hid (Below w.heap.size w W):=QLh (by rw[<-hW];(repeat (first | exact Below.refl _ _ | assumption | (refine Zy ?_) | (refine Zg ?_ _) | (refine Qf ?_ _) | (refine Ji ?_ (by first | omega | (simp;done) | (simp;omega)) _) | (refine Qj ?_ (by assumption)))))
 have W0:Hid (W.heap[w.heap.size]?=some (.cells #[.nilIface] 89 (0,0))):=QLh (by rw[<-hW];(repeat (first | exact Qg _ (by repeat (first | rfl | refine Q3 _ ?_)) | refine Qe ?_ _)))
 rw[hW];clear hW;have RB:=QLh (H.out.below WB.out);have HC:=QLh (HC0.out.below WB.out);have cg:W.cell? ⟨0,0,none⟩=some (.slice (some ⟨tb,tq,none⟩) (len Vq) rc):=by rw[WB.out.cell (p:=⟨0,0,none⟩) hgl];exact HG.out
 have hzW:=lt_of_block W0.out;have hts:(s.extract a s.size).size<=9223372036854775807:=by rw[ByteArray.size_extract];omega
 cases hres:Zz (s.extract a s.size) Vq with
 | error k=>
  have HRES:=QLh hres;have T:Hid (Qgt s a Vq=.error k):=QLh (by unfold Qgt;rw[hres]);clear hres;refine Qp 5 1000 (none) (Kx [λ u _=>u=(.pointer (some ⟨b,0,none⟩)),λ u _=>u=(.string (s.extract a s.size)),λ u _=>u=(.slice (some ⟨tb,tq,none⟩) (len Vq) rc),λ _ _=>False,λ u w'=>∃b',u=.pointer (some ⟨b',0,none⟩)/\w.heap.size<b'/\w'.heap[b']?=some (.cells #[.int .u64 0,.string ⟨#[]⟩] 306 (0,0))]) rfl (by kernel_rfl) (by kernel_rfl) (Q9 ⟨Qd,Qd,Qd,?m3,?m4,trivial⟩) (Q6 5 ⟨?s0,?s1,?s2,?s3,?s4,trivial⟩) ?_
  case m3=>exact⟨λ _ _ _ _ h=>h,λ _ _ _ _ _ h=>h⟩
  case m4=>exact⟨λ u w1 w' h ⟨b',h1,h2,h3⟩=>⟨b',h1,h2,Zo h h3⟩,λ _ u w1 w' h ⟨b',h1,h2,h3⟩=>⟨b',h1,h2,Qw h (by simp) h3⟩⟩
  case s0=>refine qV (λ _=>rfl) rfl λ av wv hE hO hD=>?_;simp[go_sem,qF av 0 (.pointer (some ⟨b,0,none⟩)) (hO.2.2 0 rfl)]
  case s1=>refine Qu (λ av wv hE hS hO hD=>⟨rfl,?_⟩);have f6:=qE (hD.1 rfl _ rfl);refine Zb (v:=(.string (s.extract a s.size))) (by simp[go_sem,f6]) (Qce wv b s a most (RB.out.below (Q0 hE)) ha hs) (λ w2 hb=>⟨_,rfl,Qo hb,rfl⟩)
  case s2=>refine qV (λ _=>rfl) rfl λ av wv hE hO hD=>?_;simp[go_sem,Qb hE (by simp) cg]
  case s3=>refine Qu (λ av wv hE hS hO hD=>⟨rfl,?_⟩);have f7:=qE (hD.1 rfl _ rfl);have f8:=qE (hD.2.1 rfl _ rfl);refine Qe1 (chain:=QcR k) (by simp[go_sem,f7,f8]) ((Qeb (s.extract a s.size) (some ⟨tb,tq,none⟩) rc Vq wv hts (by decide) (by decide) (HC.out.below (Q0 hE)) Qbk).mono (λ e w' hh=>by rw[HRES.out]at hh;exact U0 hh)) (λ w2 hb=>?_);have g2:av.eval (.tmp 2)=.int .u64 0:=hO.2.2 2 rfl;have g3:av.eval (.tmp 3)=.pointer (some ⟨w.heap.size,0,none⟩):=hO.2.2 3 rfl;have f2:=(Xd av 2).symm.trans g2;have f3:=(Xd av 3).symm.trans g3;have B2:=Qj (Q0 hE) hb;show Leaves _ _ av.tmps _ av.defers _ _;rw[hO.1];refine Qbf k b s a most w2 w.heap.size (.int .u64 0) (RB.out.below B2) ((B2.block _ (lt_of_block W0.out)).trans W0.out) (by omega) (λ w hc=>by simp[results,Tryz.results208,go_sem,hc,f2,f3]) (λ w' hE hR hf=>?_);have hz:=(Qj WB.out B2).size;rw[T.out];exact⟨Qbn (Qj WB.out B2) hE,hR,_,rfl,hz,hf⟩
  case s4=>refine Qu (λ av wv hE hS hO hD=>⟨rfl,?_⟩);refine Zn (v:=.pointer (some ⟨wv.heap.size,0,none⟩)) (w':=wv.alloc (.cells #[.int .u64 0,.string ⟨#[]⟩] 306)) (by simp[go_sem]) ⟨_,rfl,Qo (Qf (Zj _) _),wv.heap.size,rfl,?_,heap_alloc_new _ _⟩;have:=(Q0 hE).size;omega
  intro a' w' hE hO hall;have hA:=Qn (ds:=[6,7,8,9,4]) rfl hO (by kernel_rfl);obtain⟨j0,j1,j2,j3,j4,-⟩:=hall;have e9:(λ _ _=>False) (a'.eval (.tmp 9)) w':=j3 _ rfl;have e4:(λ u w'=>∃b',u=.pointer (some ⟨b',0,none⟩)/\w.heap.size<b'/\w'.heap[b']?=some (.cells #[.int .u64 0,.string ⟨#[]⟩] 306 (0,0))) (a'.eval (.tmp 4)) w':=j4 _ rfl;obtain⟨v9,hv9⟩:∃v,a'.eval (.tmp 9)=v:=⟨_,rfl⟩;rw[hv9]at e9;obtain⟨v4,hv4⟩:∃v,a'.eval (.tmp 4)=v:=⟨_,rfl⟩;rw[hv4]at e4;simp only[List.foldl_cons,List.foldl_nil,Act.put,List.setIfInBounds_toArray,List.set_cons_succ,List.set_cons_zero,qJ 6 (j0 _ rfl),qJ 7 (j1 _ rfl),qJ 8 (j2 _ rfl),hv9,hv4]at hA;clear hO j3 j4 j0 j1 j2 hv9 hv4;subst hA;exact absurd e9 id
 | ok x=>
  obtain⟨n,rest⟩:=x;obtain⟨n0,n1,hrest⟩:=QbH Qbk hres;have HRES:=QLh hres;have hss:(s.extract a s.size).size=s.size - a:=by rw[ByteArray.size_extract];omega
  have hr2:rest.size<s.size - a:=by omega
  have T:Hid (Qgt s a Vq=.ok (.int .u64 n,s.size - rest.size)):=QLh (by unfold Qgt;rw[hres]);clear hres hrest hss;refine Qp 5 1000 (none) (Kx [λ u _=>u=(.pointer (some ⟨b,0,none⟩)),λ u _=>u=(.string (s.extract a s.size)),λ u _=>u=(.slice (some ⟨tb,tq,none⟩) (len Vq) rc),λ u _=>u=(.agg #[.int .u64 n,.string rest]),λ u w'=>∃b',u=.pointer (some ⟨b',0,none⟩)/\w.heap.size<b'/\w'.heap[b']?=some (.cells #[.int .u64 0,.string ⟨#[]⟩] 306 (0,0))]) rfl (by kernel_rfl) (by kernel_rfl) (Q9 ⟨Qd,Qd,Qd,Qd,?m4,trivial⟩) (Q6 5 ⟨?s0,?s1,?s2,?s3,?s4,trivial⟩) ?_
  case m4=>exact⟨λ u w1 w' h ⟨b',h1,h2,h3⟩=>⟨b',h1,h2,Zo h h3⟩,λ _ u w1 w' h ⟨b',h1,h2,h3⟩=>⟨b',h1,h2,Qw h (by simp) h3⟩⟩
  case s0=>refine qV (λ _=>rfl) rfl λ av wv hE hO hD=>?_;simp[go_sem,qF av 0 (.pointer (some ⟨b,0,none⟩)) (hO.2.2 0 rfl)]
  case s1=>refine Qu (λ av wv hE hS hO hD=>⟨rfl,?_⟩);have f6:=qE (hD.1 rfl _ rfl);refine Zb (v:=(.string (s.extract a s.size))) (by simp[go_sem,f6]) (Qce wv b s a most (RB.out.below (Q0 hE)) ha hs) (λ w2 hb=>⟨_,rfl,Qo hb,rfl⟩)
  case s2=>refine qV (λ _=>rfl) rfl λ av wv hE hO hD=>?_;simp[go_sem,Qb hE (by simp) cg]
  case s3=>refine Qu (λ av wv hE hS hO hD=>⟨rfl,?_⟩);have f7:=qE (hD.1 rfl _ rfl);have f8:=qE (hD.2.1 rfl _ rfl);refine Zb (v:=(.agg #[.int .u64 n,.string rest])) (by simp[go_sem,f7,f8]) ((Qeb (s.extract a s.size) (some ⟨tb,tq,none⟩) rc Vq wv hts (by decide) (by decide) (HC.out.below (Q0 hE)) Qbk).mono (λ e w' hh=>by rw[HRES.out]at hh;exact QaC hh)) (λ w2 hb=>⟨_,rfl,Qo hb,rfl⟩)
  case s4=>refine Qu (λ av wv hE hS hO hD=>⟨rfl,?_⟩);refine Zn (v:=.pointer (some ⟨wv.heap.size,0,none⟩)) (w':=wv.alloc (.cells #[.int .u64 0,.string ⟨#[]⟩] 306)) (by simp[go_sem]) ⟨_,rfl,Qo (Qf (Zj _) _),wv.heap.size,rfl,?_,heap_alloc_new _ _⟩;have:=(Q0 hE).size;omega
  intro a' w' hE hO hall;have hA:=Qn (ds:=[6,7,8,9,4]) rfl hO (by kernel_rfl);obtain⟨j0,j1,j2,j3,j4,-⟩:=hall;have e4:(λ u w'=>∃b',u=.pointer (some ⟨b',0,none⟩)/\w.heap.size<b'/\w'.heap[b']?=some (.cells #[.int .u64 0,.string ⟨#[]⟩] 306 (0,0))) (a'.eval (.tmp 4)) w':=j4 _ rfl;obtain⟨v4,hv4⟩:∃v,a'.eval (.tmp 4)=v:=⟨_,rfl⟩;rw[hv4]at e4;simp only[List.foldl_cons,List.foldl_nil,Act.put,List.setIfInBounds_toArray,List.set_cons_succ,List.set_cons_zero,qJ 6 (j0 _ rfl),qJ 7 (j1 _ rfl),qJ 8 (j2 _ rfl),qJ 9 (j3 _ rfl),hv4]at hA;clear hO j4 j0 j1 j2 j3 hv4;subst hA;obtain⟨tk,rfl,ht1,ht2⟩:=e4;have B1:=QLh (Q0 hE);have x0:∀o,w'.cell? ⟨tk,o,none⟩=_:=Qa ht2;have x1:∀o,w'.frozen? ⟨tk,o,none⟩=false:=Qk ht2;have HT2:=QLh ht2;have E1:Hid (w'.heap[w.heap.size]?=some (.cells #[.nilIface] 89 (0,0))):=QLh ((B1.out.block _ hzW).trans W0.out);clear hE ht2 cg;go_upto_region 3 with fail;obtain⟨V,hV⟩:∃V,(w'.setCell ⟨tk,0,none⟩ (.int .u64 n)).setCell ⟨tk,1,none⟩ (.string rest)=V:=⟨_,rfl⟩;have hne:b≠tk:=by omega
  have hne2:w.heap.size≠tk:=by omega
  have VR:Hid (RdB V b s a most):=QLh (by rw[<-hV];exact Qh (Qh (RB.out.below B1.out) hne _) hne _);have VE:Hid (V.heap[w.heap.size]?=some (.cells #[.nilIface] 89 (0,0))):=QLh (by rw[<-hV];exact Qh (Qh E1.out hne2 _) hne2 _);have VT:Hid (V.heap[tk]?=some (.cells #[.int .u64 n,.string rest] 306 (0,0))):=QLh (by rw[<-hV];exact Qc (Qc HT2.out _) _);have VX:Hid (Below w.heap.size w V):=QLh (by rw[<-hV];exact Ji (Ji (Qj WB.out B1.out) (by show w.heap.size<=tk;omega) _) (by show w.heap.size<=tk;omega) _);rw[hV];clear hV x0 x1 HT2 E1 RB;have y1:V.cell? ⟨tk,1,none⟩=some (.string rest):=Qa VT.out 1;go_wp2_with fail;refine(QcV _ b s a rest.size most VR.out hs (by omega) (by omega)).mono ?_;rintro e w5 ⟨rfl,hw5⟩;have R5:Hid (RdB w5 b s ((s.size - rest.size:Nat):Int) most):=QLh (by
   rw[hw5];have h:=Qc VR.out (o:=1) (.int .i64 ((s.size:Int) - rest.size));rw[show((s.size - rest.size:Nat):Int)=(s.size:Int) - rest.size by omega];exact h)
  have E5:w5.heap[w.heap.size]?=some (.cells #[.nilIface] 89 (0,0)):=by rw[hw5];exact Qh VE.out (by show w.heap.size≠b;omega) _
  have N5:w5.heap[tk]?=some (.cells #[.int .u64 n,.string rest] 306 (0,0)):=by rw[hw5];exact Qh VT.out (by show tk≠b;omega) _
  have X5:Hid (Xe (some b) w w5):=QLh (by
   rw[hw5];have hB:=VX.out;exact⟨hB.os,hB.tape,hB.output,by simpa using hB.size,λ i hi hn=>by rw[Below.heap_setCell _ _ _ _ (by exact λ e=>hn (by rw[e]))];exact hB.block i hi⟩)
  have a0:w5.cell? ⟨tk,0,none⟩=some (.int .u64 n):=Qa N5 0;have a2:w5.cell? ⟨w.heap.size,0,none⟩=some .nilIface:=Qa E5 0;have a3:w5.frozen? ⟨w.heap.size,0,none⟩=false:=Qk E5 0;have hz5:=lt_of_block E5;clear hw5 E5 N5 y1;go_wp2;rw[T.out];refine leaves_cons (f:=264) (args:=#[.pointer (some ⟨b,0,none⟩),.pointer (some ⟨w.heap.size,0,none⟩)]) (by simp) (by simp[go_sem]) ?_;refine(Qbc (.pointer (some ⟨b,0,none⟩)) (.pointer (some ⟨w.heap.size,0,none⟩)) _).mono ?_;rintro e u' w'' ⟨rfl,rfl,rfl⟩;refine⟨_,by simp[results,Tryz.results208,go_sem,a2];rfl,?_⟩;refine⟨?_,rfl,?_⟩
  ·exact QjD X5.out (Nat.le_refl _) _
  ·exact Qh R5.out (by show b≠w.heap.size;omega) _
section
open Go.RowKit Go.Extern.Stop Go.Stop Go.Extern
theorem QeN(w:World){P:Program}(d:Nat){ti tn:TypeId}{ms:Array (String × TypeId)}{i:TypeInfo}{k:IntKind}(a b:Int)
  (hi:P.underlying ti=some (.interface ms)) (hn:P.underlying tn=some (.int k)) (hinfo:P.info? tn=some i) (hcomp:i.comparable=true):
  (Op.equalIn (d+2) ti (.iface tn (.int k a)) (.iface tn (.int k b))).run P w=.ok (a == b) w:=by
 simp[Op.equalIn,run_underlying hi,run_underlying hn,typeInfo,hinfo,hcomp]
theorem Qj3{P:Program}{ti tn:TypeId}{ms:Array (String × TypeId)}{i:TypeInfo}{k:IntKind}(a b:Int)
  (hi:P.underlying ti=some (.interface ms)) (hn:P.underlying tn=some (.int k)) (hinfo:P.info? tn=some i) (hcomp:i.comparable=true) (w:World):
  (binOp .eql ti (.iface tn (.int k a)) (.iface tn (.int k b))).run P w=.ok (.bool (a == b)) w:=by
 simp only[binOp];simp[Op.equal,Op.maxDepth,QeN w 9998 a b hi hn hinfo hcomp]
theorem rtOf(gs:Nat)(hg:gs=Tryz.prog.globals.size)(t:TypeId)(v:Value)(w:World)(ht:t=27 \/ t=290):(Extern.ReflectliteType.typeOf #[.iface t v]).run Tryz.prog w=.ok (.iface 349 (.agg #[.pointer (some ⟨gs,t,none⟩)])) w:=by
 subst hg
 rcases ht with rfl | rfl <;> kernel_rfl
theorem Qi2(gs:Nat)(hg:gs=Tryz.prog.globals.size)(w:World):((Extern.ReflectliteType.method λ t=>do Extern.Rtype.noPackHeld "Comparable" t;(λ a=>Value.bool a.comparable) <$> typeInfo t) #[.agg #[.pointer (some ⟨gs,27,none⟩)]]).run Tryz.prog w=.ok (.bool true) w:=by subst hg;kernel_rfl
theorem Qcx(n:Nat)(v:Value)(w:World):(Go.method (n+1) 349 v "Comparable").run Tryz.prog w=.ok (344,v) w:=by kernel_rfl
theorem Qn5:(Tryz.prog.info? 27).map (·.comparable)=some true:=by kernel_rfl
theorem Qvc(v:Value)(xT:TypeId)(w:World):(Instr.typeAssert (.iface 290 v) xT 351 true).run Tryz.prog w=.ok (.tuple #[.nilIface,.bool false]) w:=run_typeAssert_lacksB Tryz.underlying351 (by kernel_rfl) (by kernel_rfl) v xT w
theorem QlI(v:Value)(xT:TypeId)(w:World):(Instr.typeAssert (.iface 290 v) xT 354 true).run Tryz.prog w=.ok (.tuple #[.iface 290 v,.bool true]) w:=run_typeAssert_hasB Tryz.underlying354 (by kernel_rfl) v xT w
theorem QuG(v:Value)(xT:TypeId)(w:World):(Instr.typeAssert (.iface 27 v) xT 351 true).run Tryz.prog w=.ok (.tuple #[.nilIface,.bool false]) w:=run_typeAssert_lacksB Tryz.underlying351 (by kernel_rfl) (by kernel_rfl) v xT w
theorem QnN(v:Value)(xT:TypeId)(w:World):(Instr.typeAssert (.iface 27 v) xT 354 true).run Tryz.prog w=.ok (.tuple #[.nilIface,.bool false]) w:=run_typeAssert_lacksB Tryz.underlying354 (by kernel_rfl) (by kernel_rfl) v xT w
theorem Qmg(v:Value)(xT:TypeId)(w:World):(Instr.typeAssert (.iface 27 v) xT 355 true).run Tryz.prog w=.ok (.tuple #[.nilIface,.bool false]) w:=run_typeAssert_lacksB Tryz.underlying355 (by kernel_rfl) (by kernel_rfl) v xT w
theorem Qg7(n:Nat)(v:Value)(w:World):(Go.method (n+1) 290 v "Unwrap").run Tryz.prog w=.ok (338,v) w:=by kernel_rfl
theorem Qrd(f:Nat)(k e:Int)(w:World)(h:w.cell? ⟨f,0,none⟩=some (.int .i64 k)):
  Calls Tryz.prog 253 #[.iface 290 (.pointer (some ⟨f,0,none⟩)),.iface 27 (.int .i64 e)] w λ x w'=>x=.returned (.bool (k == e))/\w'=w:=by
 obtain⟨i,hi,hcmp⟩:=Option.map_eq_some_iff.1 Qn5;have h8:=@run_callFunc_extern Tryz.prog 283 _ Extern.ReflectliteType.typeOf Tryz.func283 (by kernel_rfl) (by kernel_rfl) (by kernel_rfl) (by kernel_rfl);have h32:=@run_callFunc_extern Tryz.prog 344 _ (Extern.ReflectliteType.method λ t=>do Extern.Rtype.noPackHeld "Comparable" t;pure (.bool (<-typeInfo t).comparable)) Tryz.func344 (by kernel_rfl) (by kernel_rfl) (by kernel_rfl) (by kernel_rfl);obtain⟨gs,hg⟩:∃gs,gs=Tryz.prog.globals.size:=⟨_,rfl⟩;have tT:=λ w=>rtOf gs hg 27 (.int .i64 e) w (.inl rfl);have cT:=Qi2 gs hg;clear hg;have mR:=Qcx;have n1:=Qvc;have n2:=QlI;have n3:=QuG;have n4:=QnN;have n5:=Qmg;have n6:=Qg7;have q1:=fun (w:World)=>run_eql_iface_types (P:=Tryz.prog) 290 27 (.pointer (some ⟨f,0,none⟩)) (.int .i64 e) Tryz.underlying89 (by decide) w;have q2:=Qj3 (P:=Tryz.prog) k e Tryz.underlying89 Tryz.underlying27 hi hcmp
 go_enter Tryz.func253,Tryz.ntmps253
 cases hke:k == e
 all_goals
  rw[hke]at q2;go_wp2;refine wp_loop_rounds 2 ?_;rw[rounds_succ];go_wp2;rw[rounds_succ];go_wp2;go_ret;exact⟨rfl,rfl⟩
theorem Qte(e:Int)(w:World):Calls Tryz.prog 253 #[.nilIface,.iface 27 (.int .i64 e)] w λ x w'=>x=.returned (.bool false)/\w'=w:=by
 have hn:=run_eql_iface_nil_left (P:=Tryz.prog) w 27 (.int .i64 e) Tryz.underlying89
 go_enter Tryz.func253,Tryz.ntmps253
 go_wp2;go_ret;exact⟨rfl,rfl⟩
theorem QrL(v:Value)(w:World):Calls Tryz.prog 254 #[.nilIface,v] w λ x w'=>x=.returned (.bool false)/\w'=w:=by
 go_enter Tryz.func254,Tryz.ntmps254
 go_wp2;go_ret;exact⟨rfl,rfl⟩
theorem vOfF(gs:Nat)(hg:gs=Tryz.prog.globals.size)(x:Nat)(w:World):(Extern.ReflectliteValue.unpack (.iface 290 (.pointer (some ⟨x,0,none⟩)))).run Tryz.prog w=.ok (.agg #[.pointer (some ⟨gs,290,none⟩),.pointer (some ⟨w.heap.size,0,none⟩),.int .u64 150]) (w.alloc (.cells #[.pointer (some ⟨x,0,none⟩)] 290)):=by subst hg;kernel_rfl
theorem QuR(gs:Nat)(hg:gs=Tryz.prog.globals.size)(x:Nat)(w:World):(Extern.ReflectliteValue.unpack (.iface 293 (.pointer (some ⟨x,0,none⟩)))).run Tryz.prog w=.ok (.agg #[.pointer (some ⟨gs,293,none⟩),.pointer (some ⟨w.heap.size,0,none⟩),.int .u64 150]) (w.alloc (.cells #[.pointer (some ⟨x,0,none⟩)] 293)):=by subst hg;kernel_rfl
theorem Qvb(gs:Nat)(hg:gs=Tryz.prog.globals.size)(a:Addr)(w:World):(Extern.ReflectliteValue.methodAny (Extern.ReflectliteValue.valueError "reflectlite.Value.Type" 0) (λ t _ _ _=>Extern.ReflectliteType.toType t) #[(.agg #[.pointer (some ⟨gs,293,none⟩),.pointer (some a),.int .u64 150])]).run Tryz.prog w=.ok (.iface 349 (.agg #[.pointer (some ⟨gs,293,none⟩)])) w:=by subst hg;kernel_rfl
theorem QuL(gs:Nat)(hg:gs=Tryz.prog.globals.size)(n:Nat)(w:World):(Go.method (n+1) 349 (.agg #[.pointer (some ⟨gs,293,none⟩)]) "Kind").run Tryz.prog w=.ok (330,.pointer (some ⟨gs,293,none⟩)) w:=by subst hg;kernel_rfl
theorem Qul(gs:Nat)(hg:gs=Tryz.prog.globals.size)(n:Nat)(w:World):(Go.method (n+1) 349 (.agg #[.pointer (some ⟨gs,290,none⟩)]) "Kind").run Tryz.prog w=.ok (330,.pointer (some ⟨gs,290,none⟩)) w:=by subst hg;kernel_rfl
theorem QuC(n:Nat)(v:Value)(w:World):(Go.method (n+1) 349 v "Elem").run Tryz.prog w=.ok (345,v) w:=by kernel_rfl
theorem Qve(n:Nat)(v:Value)(w:World):(Go.method (n+1) 349 v "Implements").run Tryz.prog w=.ok (346,v) w:=by kernel_rfl
theorem Qs9(n:Nat)(v:Value)(w:World):(Go.method (n+1) 349 v "AssignableTo").run Tryz.prog w=.ok (343,v) w:=by kernel_rfl
theorem Qu9(gs:Nat)(hg:gs=Tryz.prog.globals.size)  (w:World):(Extern.ReflectliteType.method Extern.ReflectliteType.elem #[(.agg #[.pointer (some ⟨gs,293,none⟩)])]).run Tryz.prog w=.ok (.iface 349 (.agg #[.pointer (some ⟨gs,290,none⟩)])) w:=by subst hg;kernel_rfl
theorem QsK(gs:Nat)(hg:gs=Tryz.prog.globals.size)  (w:World):(Extern.ReflectliteType.relation "AssignableTo" Extern.ReflectliteType.assignableTo #[(.agg #[.pointer (some ⟨gs,290,none⟩)]),.iface 349 (.agg #[.pointer (some ⟨gs,290,none⟩)])]).run Tryz.prog w=.ok (.bool true) w:=by subst hg;kernel_rfl
theorem QuK(gs:Nat)(hg:gs=Tryz.prog.globals.size)  (w:World):(Extern.ReflectliteType.relation "Implements" Extern.ReflectliteType.implements_ #[(.agg #[.pointer (some ⟨gs,290,none⟩)]),.iface 349 (.agg #[.pointer (some ⟨gs,89,none⟩)])]).run Tryz.prog w=.ok (.bool true) w:=by subst hg;kernel_rfl
theorem QuV(gs:Nat)(hg:gs=Tryz.prog.globals.size)  (w:World):(Extern.ReflectliteType.abiMethod (λ t=>(λ a=>Value.int IntKind.u8 ((a:Nat):Int)) <$> Extern.Rtype.kind t) #[.pointer (some ⟨gs,293,none⟩)]).run Tryz.prog w=.ok (.int .u8 22) w:=by subst hg;kernel_rfl
theorem QtS(gs:Nat)(hg:gs=Tryz.prog.globals.size)  (w:World):(Extern.ReflectliteType.abiMethod (λ t=>(λ a=>Value.int IntKind.u8 ((a:Nat):Int)) <$> Extern.Rtype.kind t) #[.pointer (some ⟨gs,290,none⟩)]).run Tryz.prog w=.ok (.int .u8 22) w:=by subst hg;kernel_rfl
theorem QnJ(gs:Nat)(hg:gs=Tryz.prog.globals.size)(a:Addr)(w:World):(Extern.ReflectliteValue.parts (.agg #[.pointer (some ⟨gs,293,none⟩),.pointer (some a),.int .u64 150])).run Tryz.prog w=.ok (some (293,a,150)) w:=by subst hg;kernel_rfl
theorem Qtp(gs:Nat)(hg:gs=Tryz.prog.globals.size)(a:Addr)(w:World):(Extern.ReflectliteValue.parts (.agg #[.pointer (some ⟨gs,290,none⟩),.pointer (some a),.int .u64 150])).run Tryz.prog w=.ok (some (290,a,150)) w:=by subst hg;kernel_rfl
theorem QrY(gs:Nat)(hg:gs=Tryz.prog.globals.size)(a:Addr)(w:World):(Extern.ReflectliteValue.parts (.agg #[.pointer (some ⟨gs,290,none⟩),.pointer (some a),.int .u64 406])).run Tryz.prog w=.ok (some (290,a,406)) w:=by subst hg;kernel_rfl
theorem QtV(w:World):(Extern.Rtype.elem? 293).run Tryz.prog w=.ok (some 290) w:=by kernel_rfl
theorem mkF(gs:Nat)(hg:gs=Tryz.prog.globals.size)(p:Addr)(w:World):(Extern.ReflectliteValue.mk 290 p Extern.ReflectliteValue.flagAddr).run Tryz.prog w=.ok (.agg #[.pointer (some ⟨gs,290,none⟩),.pointer (some p),.int .u64 406]) w:=by subst hg;kernel_rfl
theorem Qtf(w:World):(Extern.Rtype.directlyAssignable 290 290).run Tryz.prog w=.ok true w:=by kernel_rfl
theorem Qrz(b:Nat)(p:Addr)(w:World)(h:w.cell? ⟨b,0,none⟩=some (.pointer (some p))):(loadVar 293 ⟨b,0,none⟩).run Tryz.prog w=.ok (.pointer (some p)) w:=by simp[go_sem,h]
theorem QtD(gs:Nat)(hg:gs=Tryz.prog.globals.size)(b:Nat)(p:Addr)(w:World)(h:w.cell? ⟨b,0,none⟩=some (.pointer (some p))):(Extern.ReflectliteValue.method (Extern.ReflectliteValue.valueError "reflectlite.Value.IsNil" 0) Extern.ReflectliteValue.isNil #[(.agg #[.pointer (some ⟨gs,293,none⟩),.pointer (some ⟨b,0,none⟩),.int .u64 150])]).run Tryz.prog w=.ok (.bool false) w:=by
 change (do
  match <-Extern.ReflectliteValue.parts (.agg #[.pointer (some ⟨gs,293,none⟩),.pointer (some ⟨b,0,none⟩),.int .u64 150])with
  | none=>Extern.ReflectliteValue.valueError "reflectlite.Value.IsNil" 0
  | some (t,a,fl)=>Extern.ReflectliteValue.isNil t a fl (fl % 32):Sem Value).run Tryz.prog w=_
 simp[QnJ gs hg,Extern.ReflectliteValue.isNil,Qrz b p w h]
theorem QuX(gs:Nat)(hg:gs=Tryz.prog.globals.size)(b:Nat)(p:Addr)(w:World)(h:w.cell? ⟨b,0,none⟩=some (.pointer (some p))):(Extern.ReflectliteValue.method (Extern.ReflectliteValue.valueError "reflectlite.Value.Elem" 0) Extern.ReflectliteValue.elem #[(.agg #[.pointer (some ⟨gs,293,none⟩),.pointer (some ⟨b,0,none⟩),.int .u64 150])]).run Tryz.prog w=.ok (.agg #[.pointer (some ⟨gs,290,none⟩),.pointer (some p),.int .u64 406]) w:=by
 change (do
  match <-Extern.ReflectliteValue.parts (.agg #[.pointer (some ⟨gs,293,none⟩),.pointer (some ⟨b,0,none⟩),.int .u64 150])with
  | none=>Extern.ReflectliteValue.valueError "reflectlite.Value.Elem" 0
  | some (t,a,fl)=>Extern.ReflectliteValue.elem t a fl (fl % 32):Sem Value).run Tryz.prog w=_
 simp[QnJ gs hg,Extern.ReflectliteValue.elem,QtV,mkF gs hg,Qrz b p w h]
theorem vSet(gs:Nat)(hg:gs=Tryz.prog.globals.size)(tb b:Nat)(x:Value)(p:Addr)(w:World)(h:w.cell? ⟨b,0,none⟩=some (.pointer (some p)))(hx:w.cell? ⟨tb,0,none⟩=some x)(hz:w.frozen? ⟨tb,0,none⟩=false):
  (Extern.ReflectliteValue.set #[(.agg #[.pointer (some ⟨gs,290,none⟩),.pointer (some ⟨tb,0,none⟩),.int .u64 406]),(.agg #[.pointer (some ⟨gs,290,none⟩),.pointer (some ⟨b,0,none⟩),.int .u64 150])]).run Tryz.prog w=.ok (.tuple #[]) (w.setCell ⟨tb,0,none⟩ (.pointer (some p))):=by
 have l61:(loadVar 290 ⟨b,0,none⟩).run Tryz.prog w=.ok (.pointer (some p)) w:=by simp[go_sem,h]
 have s61:(storeVar 290 ⟨tb,0,none⟩ (.pointer (some p))).run Tryz.prog w=.ok () (w.setCell ⟨tb,0,none⟩ (.pointer (some p))):=by simp[go_sem,hx,hz]
 change (do
  let (some (dst,a,fl),some (src,b,_)):=(<-Extern.ReflectliteValue.parts (.agg #[.pointer (some ⟨gs,290,none⟩),.pointer (some ⟨tb,0,none⟩),.int .u64 406]),<-Extern.ReflectliteValue.parts (.agg #[.pointer (some ⟨gs,290,none⟩),.pointer (some ⟨b,0,none⟩),.int .u64 150]))
   | unsupported (.noEntry _)
  if fl / Extern.ReflectliteValue.flagAddr % 2 == 0 then unsupported (.noEntry _)
  let val <-loadVar src b
  if <-Extern.Rtype.directlyAssignable dst src then storeVar dst a val
  else if <-Extern.Rtype.implements dst src then
   if(<-Extern.Rtype.kind src) == 20 then
    match val with
    | .nilIface=>unsupported (.noEntry _)
    | _=>storeVar dst a val
   else storeVar dst a (.iface src val)
  else panicString (_++(<-Extern.Rtype.spelt src)++_++(<-Extern.Rtype.spelt dst))
  pure (.tuple #[]):Sem Value).run Tryz.prog w=_
 simp[Qtp gs hg,QrY gs hg,l61,Qtf,s61,Extern.ReflectliteValue.flagAddr]
theorem Qqb{w w1:World}{tb:Nat}(h:Below w.heap.size w w1)(v:Value):Xe (some tb) w (w1.setCell ⟨tb,0,none⟩ v):=
 ⟨h.os,h.tape,h.output,by simpa using h.size,λ i hi hn=>by rw[Below.heap_setCell _ _ _ _ (by show i≠tb;exact λ e=>hn (by rw[e]))];exact h.block i hi⟩
def Yo(w:World):Prop:=w.cell? ⟨3,0,none⟩=some (.iface 349 (.agg #[.pointer (some ⟨Tryz.prog.globals.size,89,none⟩)]))
theorem Qpw(f tb:Nat)(q:Option Addr)(w:World)(he:Yo w)(ht:w.heap[tb]?=some (.cells #[.pointer q] 290 (0,0))):
  Calls Tryz.prog 254 #[.iface 290 (.pointer (some ⟨f,0,none⟩)),.iface 293 (.pointer (some ⟨tb,0,none⟩))] w λ x w'=>x=.returned (.bool true)/\Xe (some tb) w w'/\w'.heap[tb]?=some (.cells #[.pointer (some ⟨f,0,none⟩)] 290 (0,0)):=by
 obtain⟨gs,hg⟩:∃gs,gs=Tryz.prog.globals.size:=⟨_,rfl⟩;have ce:w.cell? ⟨3,0,none⟩=some (.iface 349 (.agg #[.pointer (some ⟨gs,89,none⟩)])):=by rw[hg];exact he
 have hel:=Ql ce;have ct:w.cell? ⟨tb,0,none⟩=some (.pointer q):=Qa ht 0;have cz:w.frozen? ⟨tb,0,none⟩=false:=Qk ht 0;have htl:=lt_of_block ht;have HT:=QLh ht;clear he ht;have x31:=@run_callFunc_extern Tryz.prog 285 _ (λ args=>Extern.ReflectliteValue.unpack (args.getD 0 (.tuple #[]))) Tryz.func285 (by kernel_rfl) (by kernel_rfl) (by kernel_rfl) (by kernel_rfl);have x32:=@run_callFunc_extern Tryz.prog 286 _ (Extern.ReflectliteValue.methodAny (Extern.ReflectliteValue.valueError "reflectlite.Value.Type" 0) λ t _ _ _=>Extern.ReflectliteType.toType t) Tryz.func286 (by kernel_rfl) (by kernel_rfl) (by kernel_rfl) (by kernel_rfl);have x33:=@run_callFunc_extern Tryz.prog 287 _ (Extern.ReflectliteValue.method (Extern.ReflectliteValue.valueError "reflectlite.Value.IsNil" 0) Extern.ReflectliteValue.isNil) Tryz.func287 (by kernel_rfl) (by kernel_rfl) (by kernel_rfl) (by kernel_rfl);have x35:=@run_callFunc_extern Tryz.prog 283 _ (Extern.ReflectliteType.typeOf) Tryz.func283 (by kernel_rfl) (by kernel_rfl) (by kernel_rfl) (by kernel_rfl);have x40:=@run_callFunc_extern Tryz.prog 297 _ (Extern.ReflectliteValue.method (Extern.ReflectliteValue.valueError "reflectlite.Value.Elem" 0) Extern.ReflectliteValue.elem) Tryz.func297 (by kernel_rfl) (by kernel_rfl) (by kernel_rfl) (by kernel_rfl);have x41:=@run_callFunc_extern Tryz.prog 298 _ (Extern.ReflectliteValue.set) Tryz.func298 (by kernel_rfl) (by kernel_rfl) (by kernel_rfl) (by kernel_rfl);have x56:=@run_callFunc_extern Tryz.prog 330 _ (Extern.ReflectliteType.abiMethod λ t=>do pure (.int .u8 (<-Extern.Rtype.kind t))) Tryz.func330 (by kernel_rfl) (by kernel_rfl) (by kernel_rfl) (by kernel_rfl);have x66:=@run_callFunc_extern Tryz.prog 343 _ (Extern.ReflectliteType.relation "AssignableTo" Extern.ReflectliteType.assignableTo) Tryz.func343 (by kernel_rfl) (by kernel_rfl) (by kernel_rfl) (by kernel_rfl);have x68:=@run_callFunc_extern Tryz.prog 345 _ (Extern.ReflectliteType.method Extern.ReflectliteType.elem) Tryz.func345 (by kernel_rfl) (by kernel_rfl) (by kernel_rfl) (by kernel_rfl);have x69:=@run_callFunc_extern Tryz.prog 346 _ (Extern.ReflectliteType.relation "Implements" Extern.ReflectliteType.implements_) Tryz.func346 (by kernel_rfl) (by kernel_rfl) (by kernel_rfl) (by kernel_rfl);have y1:=vOfF gs hg f;have y2:=QuR gs hg tb;have y3:=Qvb gs hg;have y4:=QuL gs hg;have y5:=Qul gs hg;have y6:=QuC;have y7:=Qve;have y8:=Qs9;have y9:=Qu9 gs hg;have y10:=QsK gs hg;have y11:=QuK gs hg;have y12:=QuV gs hg;have y13:=QtS gs hg;have y14:=fun (w:World)=>rtOf gs hg 290 (.pointer (some ⟨f,0,none⟩)) w (.inr rfl);have y15:=fun (b:Nat) (w:World) h=>QtD gs hg b ⟨tb,0,none⟩ w h;have y16:=fun (X Y:Obj)=>QuX gs hg w.heap.size ⟨tb,0,none⟩ (((w.alloc (.cells #[.pointer (some ⟨tb,0,none⟩)] 293)).alloc X).alloc Y) (Qa (Qe (Qe (heap_alloc_new w _) _) _) 0);have y17:=fun (X Y:Obj)=>vSet gs hg tb (w.heap.size+1+1+1) (.pointer q) ⟨f,0,none⟩ ((((w.alloc (.cells #[.pointer (some ⟨tb,0,none⟩)] 293)).alloc X).alloc Y).alloc (.cells #[.pointer (some ⟨f,0,none⟩)] 290))
  (Qa (Qg _ (Q3 _ (Q3 _ (Q3 _ rfl)))) 0) (Qa (Qe (Qe (Qe (Qe HT.out _) _) _) _) 0) (Qk (Qe (Qe (Qe (Qe HT.out _) _) _) _) 0)
 clear hg
 go_enter Tryz.func254,Tryz.ntmps254
 go_wp2;refine wp_loop_rounds 1 ?_;rw[rounds_succ];go_wp2;go_ret;refine⟨rfl,?_,?_⟩
 ·exact Qqb (by(repeat (first | exact Below.refl _ _ | assumption | (refine Zy ?_) | (refine Zg ?_ _) | (refine Qf ?_ _) | (refine Ji ?_ (by first | omega | (simp;done) | (simp;omega)) _) | (refine Qj ?_ (by assumption))))) _
 ·exact Qc (Qe (Qe (Qe (Qe HT.out _) _) _) _) _
end
def Qd5(w:World)(f:Nat)(k:Int)(a:Nat):Prop:=w.heap[f]?=some (.cells #[.int .i64 k,.int .i64 a] 145 (0,0))
theorem Qd5.below{w w':World}{f:Nat}{k:Int}{a:Nat}(h:Qd5 w f k a)(hb:Below w.heap.size w w'):Qd5 w' f k a:=(hb.block _ (lt_of_block h)).trans h
theorem Yo.below{w w':World}(h:Yo w)(hb:Below w.heap.size w w'):Yo w':=by unfold Yo at *;rw[hb.cell (p:=⟨_,0,none⟩) (Ql h)];exact h
def Qr6(k:Option Int)(b:Nat)(s:ByteArray)(most:Int)(a:Nat)(w:World)(e:Ending)(w':World):Prop:=
 Below w.heap.size w w'/\match k with
  | none=>e=.returned .nilIface
  | some k=>∃f,e=.returned (.iface 290 (.pointer (some ⟨f,0,none⟩)))/\w.heap.size<=f/\Qd5 w' f k a
def leftOf(s:ByteArray)(a:Nat):Option Int:=if a<s.size then some 5 else none
theorem QgB{t:ByteArray}(h:t.size=0):t.toList.isEmpty=true:=by rw[ByteArray.toList_eq];cases t with | mk d=>simp_all [ByteArray.size]
theorem QiU{t:ByteArray}(h:t.size≠0):t.toList.isEmpty=false:=by rw[ByteArray.toList_eq];cases t with | mk d=>simp_all [ByteArray.size]
theorem Qnh(s:ByteArray)(a:Nat)(h:¬a<s.size):(s.extract a s.size).toList.isEmpty=true:=QgB (by rw[ByteArray.size_extract];omega)
theorem Qrj(s:ByteArray)(a:Nat)(h:a<s.size):(s.extract a s.size).toList.isEmpty=false:=QiU (by rw[ByteArray.size_extract];omega)
theorem Qos{fn:Func}{tmps:Array Value}{R:Ending->World->Prop}(k:Int)(b:Nat)(s:ByteArray)(a:Nat)(most:Int)(w1:World)(eb:Nat)(h:RdB w1 b s a most)
  (he:w1.heap[eb]?=some (.cells #[.nilIface] 89 (0,0)))
  (hr:∀w:World,w.cell? ⟨eb,0,none⟩=some (.iface 290 (.pointer (some ⟨w1.heap.size,0,none⟩)))->(results fn tmps).run Tryz.prog w=.ok (.iface 290 (.pointer (some ⟨w1.heap.size,0,none⟩))) w)
  (hR:∀w':World,Xe (some eb) w1 w'->w'.heap[w1.heap.size]?=some (.cells #[.int .i64 k,.int .i64 a] 145 (0,0))->R (.returned (.iface 290 (.pointer (some ⟨w1.heap.size,0,none⟩)))) w'):
  Leaves Tryz.prog fn tmps R [{ target:=.fn (.func 264) #[],args:=#[.pointer (some ⟨b,0,none⟩),.pointer (some ⟨eb,0,none⟩)] }] (.panicking (QcR k)) w1:=by
 refine leaves_cons (f:=264) (args:=#[.pointer (some ⟨b,0,none⟩),.pointer (some ⟨eb,0,none⟩)]) (by simp) (by simp[go_sem]) ?_;refine(QfX k [] (.pointer (some ⟨b,0,none⟩)) a eb .nilIface w1 (Qiv w1 b s a most h) (Qa he 0) rfl (Qk he 0)).mono ?_;rintro e u' w'' ⟨rfl,rfl,rfl⟩;have hl:=lt_of_block he;have hs:(w1.setCell ⟨eb,0,none⟩ (.iface 290 (.pointer (some ⟨w1.heap.size,0,none⟩)))).heap.size=w1.heap.size:=by simp
 have hb0:(w1.setCell ⟨eb,0,none⟩ (.iface 290 (.pointer (some ⟨w1.heap.size,0,none⟩)))).heap[eb]?=_:=Qc he _;have hb:=Qe hb0 (.cells #[.int .i64 k,.int .i64 a] 145);refine⟨_,hr _ (Qa hb 0),hR _ ?_ ?_⟩
 ·refine⟨rfl,rfl,rfl,by simp,λ i hi hn=>?_⟩
  rw[Below.heap_alloc _ _ _ (by rw[hs];exact hi),Below.heap_setCell _ _ _ _ (by intro e;subst e;exact hn rfl)]
 ·exact Qg _ hs
theorem QpZ(w:World)(b:Nat)(s:ByteArray)(a:Nat)(most:Int)(h:RdB w b s a most)(ha:a<=s.size)(hs:s.size<=9223372036854775807):
  Calls Tryz.prog 252 #[.pointer (some ⟨b,0,none⟩)] w (Qr6 (leftOf s a) b s most a w):=by
 have H:=QLh h;have hbl:=lt_of_block h;clear h
 go_enter_defers Tryz.func252,Tryz.ntmps252
 go_wp2_with fail;obtain⟨W,hW⟩:∃W,w.alloc (.cells #[.nilIface] 89)=W:=⟨_,rfl⟩;have WB:Hid (Below w.heap.size w W):=QLh (by rw[<-hW];(repeat (first | exact Below.refl _ _ | assumption | (refine Zy ?_) | (refine Zg ?_ _) | (refine Qf ?_ _) | (refine Ji ?_ (by first | omega | (simp;done) | (simp;omega)) _) | (refine Qj ?_ (by assumption)))))
 have W0:Hid (W.heap[w.heap.size]?=some (.cells #[.nilIface] 89 (0,0))):=QLh (by rw[<-hW];(repeat (first | exact Qg _ (by repeat (first | rfl | refine Q3 _ ?_)) | refine Qe ?_ _)))
 rw[hW];clear hW;refine(Qce W b s a most (H.out.below WB.out) ha hs).mono ?_;rintro e w1 ⟨rfl,hb1⟩;have B1:=QLh hb1;clear hb1
 by_cases hlt:a<s.size
 ·have he:=Qrj s a hlt
  have he2:(!(s.extract a s.size).toList.isEmpty)=true:=by rw[he];rfl
  have T:Hid (leftOf s a=some 5):=QLh (by unfold leftOf;rw[if_pos hlt]);go_wp2_with fail;refine(Vd 5 _).mono ?_;rintro e w2 ⟨rfl,rfl⟩;go_wp2;rw[T.out];refine Qos 5 b s a most w2 w.heap.size (H.out.below (Qj WB.out B1.out)) ((B1.out.block _ (lt_of_block W0.out)).trans W0.out) (λ w hc=>by simp[results,Tryz.results252,go_sem,hc]) (λ w' hE hf=>?_);have hz:=(Qj WB.out B1.out).size;exact⟨Qq (Qj WB.out B1.out) hE (λ k hk=>by cases hk;exact Nat.le_refl _),_,rfl,hz,hf⟩
 ·have he:=Qnh s a hlt
  have he2:(!(s.extract a s.size).toList.isEmpty)=false:=by rw[he];rfl
  have T:Hid (leftOf s a=none):=QLh (by unfold leftOf;rw[if_neg hlt]);have E1:=(B1.out.block _ (lt_of_block W0.out)).trans W0.out;have a2:w1.cell? ⟨w.heap.size,0,none⟩=some .nilIface:=Qa E1 0;have a3:w1.frozen? ⟨w.heap.size,0,none⟩=false:=Qk E1 0;have hz1:=lt_of_block E1;clear E1;go_wp2;rw[T.out];refine leaves_cons (f:=264) (args:=#[.pointer (some ⟨b,0,none⟩),.pointer (some ⟨w.heap.size,0,none⟩)]) (by simp) (by simp[go_sem]) ?_;refine(Qbc (.pointer (some ⟨b,0,none⟩)) (.pointer (some ⟨w.heap.size,0,none⟩)) _).mono ?_;rintro e u' w'' ⟨rfl,rfl,rfl⟩;refine⟨_,by simp[results,Tryz.results252,go_sem,a2];rfl,?_⟩;exact⟨Ji (Qj WB.out B1.out) (by show w.heap.size<=w.heap.size;exact Nat.le_refl _) _,rfl⟩
theorem QsP(w:World)(b:Nat)(s:ByteArray)(a:Nat)(most:Int)(het:Yo w)(h:RdB w b s a most)(ha:a<=s.size)(hs:s.size<=9223372036854775807):
  Calls Tryz.prog 184 #[.pointer (some ⟨b,0,none⟩)] w (Qr6 (leftOf s a) b s most a w):=by
 have H:=QLh h;have HET:=QLh het;clear h het
 go_enter Tryz.func184,Tryz.ntmps184
 go_wp2_with fail;refine(QpZ w b s a most H.out ha hs).mono ?_;rintro e w1 ⟨hb1,hm⟩;have B1:=QLh hb1;clear hb1
 cases hl:leftOf s a with
 | none=>
  rw[hl]at hm;subst hm;have T:=QLh hl;clear hl;go_wp2_with fail;refine(Qte 1 _).mono ?_;rintro e w2 ⟨rfl,rfl⟩;go_wp2_with fail;refine(QrL _ _).mono ?_;rintro e w2 ⟨rfl,rfl⟩;go_wp2;go_ret;rw[T.out];exact⟨(by have:=B1.out;(repeat (first | exact Below.refl _ _ | assumption | (refine Zy ?_) | (refine Zg ?_ _) | (refine Qf ?_ _) | (refine Ji ?_ (by first | omega | (simp;done) | (simp;omega)) _) | (refine Qj ?_ (by assumption))))),rfl⟩
 | some k=>
  have hk:k=5:=by unfold leftOf at hl;split at hl <;> simp_all
  subst hk;rw[hl]at hm;obtain⟨f,rfl,hf,hfb⟩:=hm;have T:=QLh hl;have F1:=QLh hfb;clear hl hfb;go_wp2_with fail;refine(Qrd f 5 1 _ (Qa (Qe F1.out _) 0)).mono ?_;rintro e w2 ⟨rfl,hw2⟩;have hb51:((5:Int) == 1)=false:=by decide
  have B2:Hid (Below w1.heap.size w1 w2):=QLh (by rw[hw2];exact Qf (Below.refl _ _) _);have T2:Hid (w2.heap[w1.heap.size]?=some (.cells #[.pointer none] 290 (0,0))):=QLh (by rw[hw2];exact heap_alloc_new _ _);clear hw2;go_wp2_with fail;refine(Qpw f w1.heap.size none w2 (HET.out.below (Qj B1.out B2.out)) T2.out).mono ?_;rintro e w3 ⟨rfl,hE3,hb3⟩;have X3:Hid (Below w.heap.size w w3):=QLh (Qq (Qj B1.out B2.out) hE3 (λ k hk=>by cases hk;exact B1.out.size));have F3:Hid (Qd5 w3 f 5 a):=QLh (Qw hE3 (by
   have:=lt_of_block F1.out;intro e;cases e;omega) (F1.out.below B2.out))
  clear hE3 hb3;go_wp2;go_ret;rw[T.out];exact⟨X3.out,f,rfl,hf,F3.out⟩
section
def EsV(VO:Nat->Option Nat)(X:Nat->World->World->Prop)(j:Nat)(w w':World):Prop:=w.grownBy w' (VO j)/\X j w w'
theorem Qku{VO:Nat->Option Nat}{X:Nat->World->World->Prop}{j:Nat}(hX:∀j w,X j w w)(w:World):EsV VO X j w w:=⟨⟨rfl,rfl,rfl,Nat.le_refl _,λ _ _ _=>rfl⟩,hX j w⟩
theorem Qmh{VO:Nat->Option Nat}{X:Nat->World->World->Prop}{j:Nat}{w w':World}(h:Ext w w')(hx:X j w w'):EsV VO X j w w':=⟨⟨h.os,h.tape,h.output,h.size,λ i hi _=>h.block i hi⟩,hx⟩
structure Qpi(VO:Nat->Option Nat)(w w':World):Prop where
 os:w'.os=w.os
 tape:w'.tape=w.tape
 output:w'.output=w.output
 size:w.heap.size<=w'.heap.size
 block:∀k,k<w.heap.size->(∀j,VO j≠some k)->w'.heap[k]?=w.heap[k]?
theorem Qpi.refl(VO:Nat->Option Nat)(w:World):Qpi VO w w:=⟨rfl,rfl,rfl,Nat.le_refl _,λ _ _ _=>rfl⟩
theorem Qpi.step{VO:Nat->Option Nat}{X:Nat->World->World->Prop}{j:Nat}{a b c:World}(h:Qpi VO a b)(k':EsV VO X j b c):Qpi VO a c:=
 have k:=k'.1
 ⟨k.os.trans h.os,k.tape.trans h.tape,k.output.trans h.output,Nat.le_trans h.size k.size,λ i hi hn=>(k.block i (Nat.lt_of_lt_of_le hi h.size) (λ e=>hn j e.symm)).trans (h.block i hi hn)⟩
structure QtM(VO:Nat->Option Nat)(I:World->Prop)(ops:List Oper)(w0 w:World)(D:Nat->Prop)(i:Nat):Prop where
 ext:Qpi VO w0 w
 inv:I w
 late:∀j,¬D j->∀b,VO j=some b->b<w0.heap.size->w.heap[b]?=w0.heap[b]?
 notyet:∀(j:Nat) oj,ops[j]?=some oj->∀e ∈ oj.after,Region.binds .any e=true->¬D e.on->¬D j
 me:¬D i
theorem QtM.own{VO:Nat->Option Nat}{I:World->Prop}{ops:List Oper}{w0 w:World}{D:Nat->Prop}{i:Nat}(h:QtM VO I ops w0 w D i):∀b,VO i=some b->b<w0.heap.size->w.heap[b]?=w0.heap[b]?:=h.late i h.me
section
variable (P : Program) (ops : List Oper) (a0 : Act) (w0 : World) (VO : Nat → Option Nat) (X : Nat → World → World → Prop) (I : World → Prop) (PR : Nat → Nat → Value → Value → World → Prop) (Φ : Nat → Value → World → Prop) (Q : Exit → Act → World → Prop)
def Qkn(D:Nat->Prop)(a:Act)(i:Nat)(v:Value)(w':World):Prop:=∀j oj,ops[j]?=some oj->D j->j≠i->PR i j v (J7 oj a) w'/\PR j i (J7 oj a) v w'
def QbI(hd:Nat)(i:Nat)(o:Oper):Prop:=∀(D:Nat->Prop) a w,(∀j oj,ops[j]?=some oj->D j->Φ j (J7 oj a) w)->QtM VO I ops w0 w D i->QaH ops a0 hd a->QiB ops Φ a w o.after.toList->
 if Region.wanted o (yielded ops.toArray a.tmps)then o.wp P a w (λ a' w'=>∃v,a'=a.put o.dst v/\EsV VO X i w w'/\Φ i (Kg o v) w'/\Qkn ops PR D a i (Kg o v) w') Q else Φ i undef w/\∀j vi vj w,PR i j vi vj w/\PR j i vi vj w
structure QkU(n:Nat)(listed:Array Bool)(a:Act)(w:World):Prop where
 head:HeadInv .any ops.toArray n listed
 ext:Qpi VO w0 w
 inv:I w
 ext0:∀i,listed.getD i true=false->∀b,VO i=some b->b<w0.heap.size->w.heap[b]?=w0.heap[b]?
 outer:QaH ops a0 n a
 done:∀(i:Nat) o,ops[i]?=some o->listed.getD i true=true->Φ i (J7 o a) w
 pair:∀i j oi oj,ops[i]?=some oi->ops[j]?=some oj->listed.getD i true=true->listed.getD j true=true->i≠j->PR i j (J7 oi a) (J7 oj a) w
variable {P ops a0 w0 VO X I PR Φ Q}
theorem Qgc{o:Oper}{i:Nat}{a:Act}{v:Value}(hB:Uf ops a0.tmps.size=true)(hs:a.tmps.size=a0.tmps.size)(ho:ops[i]?=some o):J7 o (a.put o.dst v)=Kg o v:=by
 unfold J7 Kg
 cases hd:o.dst with
 | none=>rfl
 | some d=>
  have hdl:∀d ∈ Yg ops,d<a0.tmps.size:=by unfold Uf at hB;simp only[Bool.and_eq_true]at hB;intro d hd;simpa using List.all_eq_true.1 hB.2 d hd
  have hmem:d ∈ Yg ops:=List.mem_filterMap.2 ⟨o,List.mem_of_getElem? ho,hd⟩;exact Y7 (by rw[hs];exact hdl d hmem)
theorem Qbe{o oj:Oper}{i j:Nat}{a:Act}{v:Value}(hB:Uf ops a0.tmps.size=true)(hij:i≠j)(ho:ops[i]?=some o)(hoj:ops[j]?=some oj):J7 oj (a.put o.dst v)=J7 oj a:=by
 have hnd:(Yg ops).Nodup:=by unfold Uf at hB;simp only[Bool.and_eq_true,decide_eq_true_eq]at hB;exact hB.1.2
 unfold J7
 cases hdj:oj.dst with
 | none=>rfl
 | some d=>
  cases hdo:o.dst with
  | none=>rfl
  | some d'=>
   have hne:d≠d':=by rintro rfl;exact Qj9 hnd hij ho hoj hdo hdj
   exact Yn hne
theorem QkU.next{n:Nat}(hB:Uf ops a0.tmps.size=true)(hVO:∀i j b,VO i=some b->VO j=some b->i=j)
  (hmono:∀i j v w w',i≠j->EsV VO X j w w'->Φ i v w->Φ i v w') (hI:∀j w w',EsV VO X j w w'->I w->I w') (hmonoP:∀i j k vi vj w w',k≠i->k≠j->EsV VO X k w w'->PR i j vi vj w->PR i j vi vj w') {listed:Array Bool} {a:Act} {w:World} (inv:QkU ops a0 w0 VO I PR Φ n listed a w)
  {i:Nat} {o:Oper} (hi:i ∈ Region.ready .any ops.toArray listed) (hin:i<n) (ho':ops[i]?=some o) {v:Value} {w':World} (he:EsV VO X i w w') (hv:Φ i (Kg o v) w') (hpr:Qkn ops PR (λ j=>listed.getD j true=true) a i (Kg o v) w'):
  QkU ops a0 w0 VO I PR Φ n (listed.setIfInBounds i true) (a.put o.dst v) w':=by
 have hnd:(Yg ops).Nodup:=by unfold Uf at hB;simp only[Bool.and_eq_true,decide_eq_true_eq]at hB;exact hB.1.2
 have hdl:∀d ∈ Yg ops,d<a0.tmps.size:=by unfold Uf at hB;simp only[Bool.and_eq_true]at hB;intro d hd;simpa using List.all_eq_true.1 hB.2 d hd
 refine⟨inv.head.set hi hin,inv.ext.step he,hI _ _ _ he inv.inv,λ k hl b hb hlt=>?_,?_,?_,λ i1 j1 oi oj hoi hoj l1 l2 hne=>?_⟩
 ·by_cases his:k=i
  ·exfalso
   subst his;obtain⟨hun,o',ho,_⟩:=mem_ready.1 hi;have hil:k<listed.size:=by rw[inv.head.size];exact(Array.getElem?_eq_some_iff.1 ho).1
   simp[hil]at hl
  ·rw[getD_set_ne true (Ne.symm his)]at hl
   have h1:=inv.ext0 k hl b hb hlt;rw[<-h1];exact he.1.block b (Nat.lt_of_lt_of_le hlt inv.ext.size) (λ e=>his (hVO k i b hb e.symm))
 ·obtain⟨h1,h2,h3⟩:=inv.outer
  cases hd:o.dst with
  | none=>exact⟨h1,h2,h3⟩
  | some d=>
   refine⟨h1,by simp[Act.put,h2],λ t ht=>?_⟩;have hmem:d ∈ Yg (ops.take n):=List.mem_filterMap.2 ⟨o,List.mem_of_getElem? (i:=i) (by rw[List.getElem?_take,if_pos hin];exact ho'),hd⟩;rw[Yn (by rintro rfl;simp at ht;exact ht hmem)];exact h3 t ht
 ·intro j oj hoj hl
  by_cases hij:j=i
  ·subst hij
   have:oj=o:=Option.some.inj (hoj.symm.trans ho');subst this;unfold J7;unfold Kg at hv
   cases hd:oj.dst with
   | none=>simpa [hd] using hv
   | some d=>
    simp only[hd]at hv;have hmem:d ∈ Yg ops:=List.mem_filterMap.2 ⟨oj,List.mem_of_getElem? ho',hd⟩;simp only;rw[Y7 (by rw[inv.outer.2.1];exact hdl d hmem)];exact hv
  ·rw[getD_set_ne true (Ne.symm hij)]at hl
   have h1:=hmono j i _ w w' hij he (inv.done j oj hoj hl);unfold J7 at h1 ⊢
   cases hdj:oj.dst with
   | none=>first | exact h1 | simpa [hdj] using h1
   | some d=>
    try simp only[hdj]at h1 ⊢
    cases hdo:o.dst with
    | none=>exact h1
    | some d'=>
     have hne:d≠d':=by rintro rfl;exact Qj9 hnd (Ne.symm hij) ho' hoj hdo hdj
     rw[Yn hne];exact h1
 ·by_cases h1:i1=i
  ·subst h1
   have e:oi=o:=Option.some.inj (hoi.symm.trans ho');subst e;rw[Qgc hB inv.outer.2.1 ho',Qbe hB hne ho' hoj];exact(hpr j1 oj hoj (by rwa [getD_set_ne true hne]at l2) (Ne.symm hne)).1
  ·by_cases h2:j1=i
   ·subst h2
    have e:oj=o:=Option.some.inj (hoj.symm.trans ho');subst e;rw[Qgc hB inv.outer.2.1 ho',Qbe hB (Ne.symm hne) ho' hoi];exact(hpr i1 oi hoi (by rwa [getD_set_ne true (Ne.symm hne)]at l1) hne).2
   ·rw[Qbe hB (Ne.symm h1) ho' hoi,Qbe hB (Ne.symm h2) ho' hoj]
    exact hmonoP i1 j1 i _ _ w w' (Ne.symm h1) (Ne.symm h2) he (inv.pair i1 j1 oi oj hoi hoj (by rwa [getD_set_ne true (Ne.symm h1)]at l1) (by rwa [getD_set_ne true (Ne.symm h2)]at l2) hne)
theorem QiE{n g:Nat}(hB:Uf ops a0.tmps.size=true)(hVO:∀i j b,VO i=some b->VO j=some b->i=j)
  (hmono:∀i j v w w',i≠j->EsV VO X j w w'->Φ i v w->Φ i v w') (hI:∀j w w',EsV VO X j w w'->I w->I w') (hmonoP:∀i j k vi vj w w',k≠i->k≠j->EsV VO X k w w'->PR i j vi vj w->PR i j vi vj w') (hX:∀j w,X j w w) (hnN:n<=ops.length)
  (hstep:∀(i:Nat) o,i<n->ops[i]?=some o->QbI P ops a0 w0 VO X I PR Φ Q n i o)
  (hlate:∀listed,HeadInv .any ops.toArray n listed->(∃i,i<n/\listed.getD i true=false)->Region.ready .any ops.toArray listed≠[]/\∀t ∈ Region.ready .any ops.toArray listed,t<n)
  (hend:∀listed a w,QkU ops a0 w0 VO I PR Φ n listed a w->(∀i,i<n->listed.getD i true=true)->wpAny P .any ops.toArray Q g listed a w):
  ∀(fuel:Nat) (listed:Array Bool) (a:Act) (w:World),((List.range n).filter (λ i=>!listed.getD i true)).length=fuel->QkU ops a0 w0 VO I PR Φ n listed a w->
   wpAny P .any ops.toArray Q (fuel+g) listed a w:=by
 intro fuel
 induction fuel with
 | zero=>
  intro listed a w hf inv;rw[Nat.zero_add];refine hend listed a w inv λ i hi=>?_
  cases h:listed.getD i true with
  | true=>rfl
  | false=>
   have:i ∈ (List.range n).filter (λ i=>!listed.getD i true):=List.mem_filter.2 ⟨List.mem_range.2 hi,by rw[h];rfl⟩;rw[List.eq_nil_of_length_eq_zero hf]at this;cases this
 | succ fuel ih=>
  intro listed a w hf inv;rw[show fuel+1+g=(fuel+g)+1 by omega];have hex:∃i,i<n/\listed.getD i true=false:=by
   cases hl:(List.range n).filter (λ i=>!listed.getD i true)with
   | nil=>rw[hl]at hf;cases hf
   | cons x L=>
    have:x ∈ (List.range n).filter (λ i=>!listed.getD i true):=by rw[hl];exact List.mem_cons_self ..
    obtain⟨h1,h2⟩:=List.mem_filter.1 this;exact⟨x,List.mem_range.1 h1,by simpa using h2⟩
  obtain⟨hne,hlt⟩:=hlate listed inv.head hex;refine⟨λ hr=>absurd hr hne,λ i hi=>?_⟩;have hin:=hlt i hi;obtain⟨hun,o,ho,hall⟩:=mem_ready.1 hi;have ho':ops[i]?=some o:=by simpa using ho
  have hls:listed.size=ops.length:=by rw[inv.head.size];simp
  have hdep:QiB ops Φ a w o.after.toList:=Qg1 λ e he hb oj hoj=>by
   have h1:=hall e (by simpa using he) hb;refine inv.done e.on oj hoj ?_;have h2:e.on<listed.size:=by
    rcases Nat.lt_or_ge e.on listed.size with h | h
    ·exact h
    ·simp[Array.getElem?_eq_none h]at h1
   simp[h2]at h1 ⊢;exact h1
  have hst:=hstep i o hin ho' (λ j=>listed.getD j true=true) a w (λ j oj hoj hl=>inv.done j oj hoj hl)
   ⟨inv.ext,inv.inv,λ j hj=>inv.ext0 j (by simpa using hj),λ j oj hoj e he hb hne hD=>(by
    have hjl:j<listed.size:=by rw[hls];exact(List.getElem?_eq_some_iff.1 hoj).1
    have h1:=inv.head.closed j oj (by simpa using hoj) (by simp[hjl]at hD ⊢;exact hD) e he hb
    rcases Nat.lt_or_ge e.on listed.size with h | h
    ·simp[h]at h1 hne;rw[h1]at hne;cases hne
    ·simp[Array.getElem?_eq_none h]at h1),(by rw[hun];exact Bool.false_ne_true)⟩ inv.outer hdep
  have next:∀v w',EsV VO X i w w'->Φ i (Kg o v) w'->Qkn ops PR (λ j=>listed.getD j true=true) a i (Kg o v) w'->wpAny P .any ops.toArray Q (fuel+g) (listed.setIfInBounds i true) (a.put o.dst v) w':=by intro v w' he hv hpr;refine ih _ _ _ ?_ (inv.next hB hVO hmono hI hmonoP hi hin ho' he hv hpr);have:=Qdg (listed:=listed) (i:=i) (by omega) hun _ List.nodup_range (List.mem_range.2 hin);omega
  unfold wpOp;rw[ho]
  dsimp only
  by_cases hw:Region.wanted o (yielded ops.toArray a.tmps)=true
  ·rw[if_pos hw]at hst ⊢
   left
   refine Oper.wp_mono (λ a' w' h=>?_) hst;obtain⟨v,rfl,he,hv,hpr⟩:=h;exact next v w' he hv hpr
  ·rw[if_neg hw]at hst ⊢
   have e:Kg o undef=undef:=by unfold Kg;cases o.dst <;> rfl
   exact next undef w (Qku hX w) (by rw[e];exact hst.1) (λ j oj _ _ _=>⟨(hst.2 j _ _ w).1,(hst.2 j _ _ w).2⟩)
end
section
variable {P : Program} {Q : Exit → Act → World → Prop} {a : Act} {w : World} {l : List Oper} {VO : Nat → Option Nat} {X : Nat → World → World → Prop} {I : World → Prop} {PR : Nat → Nat → Value → Value → World → Prop} {Φ : Nat → Value → World → Prop}
theorem Qjb{n:Nat}(hI0:I w.drew)(hn:n<=l.length):QkU l a w.drew VO I PR Φ n (Array.replicate l.length false) a w.drew:=
 ⟨⟨by simp,λ j oj _ hl=>(by rw[getD_replicate_false]at hl;cases hl),λ t _ ht=>getD_in (by simpa using ht) (getD_replicate_false _ _)⟩,Qpi.refl _ _,hI0,λ _ _ _ _ _=>rfl,⟨rfl,rfl,λ _ _=>rfl⟩,
  λ i o ho hl=>(by
   have hi:=(List.getElem?_eq_some_iff.1 ho).1;rw[getD_in (by simpa using hi) (getD_replicate_false _ _)]at hl;cases hl),λ i1 _ oi _ hoi _ l1 _ _=>(by
   have hi:=(List.getElem?_eq_some_iff.1 hoi).1;rw[getD_in (by simpa using hi) (getD_replicate_false _ _)]at l1;cases l1)⟩
theorem Qe2{id:Nat}(n:Nat)(VO:Nat->Option Nat)(hVO:∀i j b,VO i=some b->VO j=some b->i=j)(X:Nat->World->World->Prop)(I:World->Prop)(PR:Nat->Nat->Value->Value->World->Prop)(hX:∀j w,X j w w)(hI0:I w.drew)(Φ:Nat->Value->World->Prop)(hm:P.follows .mixedOrders=true)(hB:Uf l a.tmps.size=true)(hT:QcW l n=true)
  (hmono:∀i j v w1 w',i≠j->EsV VO X j w1 w'->Φ i v w1->Φ i v w') (hI:∀j w w',EsV VO X j w w'->I w->I w') (hmonoP:∀i j k vi vj w w',k≠i->k≠j->EsV VO X k w w'->PR i j vi vj w->PR i j vi vj w')
  (hstep:∀(i:Nat) o,i<n->l[i]?=some o->QbI P l a w.drew VO X I PR Φ Q n i o)
  (hend:∀a' w',Qpi VO w.drew w'->I w'->QaH l a n a'->Qdk l Φ a' w' 0 n->(∀i j oi oj,l[i]?=some oi->l[j]?=some oj->i<n->j<n->i≠j->PR i j (J7 oi a') (J7 oj a') w')->wpList P l.toArray Q (l.drop n) a' w'):(Code.region id l.toArray true).wp P Q a w:=by
 unfold QcW at hT;simp only[Bool.and_eq_true,decide_eq_true_eq]at hT;obtain⟨⟨⟨hn,hs⟩,hc⟩,hseq⟩:=hT;refine wp_region_any hm ?_;have H:=QiE (P:=P) (ops:=l) (a0:=a) (w0:=w.drew) (VO:=VO) (X:=X) (I:=I) (PR:=PR) (Φ:=Φ) (Q:=Q) (n:=n) (g:=l.length - n) hB hVO hmono hI hmonoP hX (by omega) hstep
  (λ listed inv ⟨i,hi,hun⟩=>⟨λ hr=>(by
    have:=Ym (a0:=a) hB (by rw[inv.size];simp) hr i (by omega);rw[hun]at this;cases this),λ t ht=>(by
    rcases Nat.lt_or_ge t n with h | h
    ·exact h
    ·exact absurd ht (tail_waits hs hc (by simpa using hn) inv (n - i) i rfl hi hun t h))⟩)
  (λ listed a' w' inv hall=>(by
    have e:=QbF (n:=n) (N:=l.length) (by rw[inv.head.size];simp) hall (λ i h1 h2=>inv.head.tail i h1 (by simpa using h2)) (by omega);have h:=wpAny_of_seq (P:=P) (md:=.any) (Q':=Q) (ops:=l.toArray) (l.drop n) n listed a' w' (λ j=>by simp[List.getElem?_drop]) (by rw[List.length_drop,e];exact hseq)
     (hend a' w' inv.ext inv.inv inv.outer (Un _ _ λ j _ h2 o ho=>inv.done j o ho (hall j (by omega))) (λ i j oi oj hoi hoj h1 h2 hne=>inv.pair i j oi oj hoi hoj (hall i h1) (hall j h2) hne))
    rwa [List.length_drop]at h))
  n (Array.replicate l.length false) a w.drew (Qam _ _ (by omega)) (Qjb hI0 (by omega))
 rw[show n+(l.length - n)=l.length by omega]at H
 simpa using H
end
def QgV(VO:Nat->Option Nat)(X:Nat->World->World->Prop):Nat->List (Value->World->Prop)->Prop
 | _,[]=>True
 | i,φ :: r=>(∀j,j≠i->∀v w1 w',EsV VO X j w1 w'->φ v w1->φ v w')/\QgV VO X (i+1) r
theorem Qk9{VO:Nat->Option Nat}{X:Nat->World->World->Prop}:∀{L:List (Value->World->Prop)} {k:Nat},QgV VO X k L->∀i j v w1 w',j≠k+i->EsV VO X j w1 w'->L.getD i (λ _ _=>True) v w1->L.getD i (λ _ _=>True) v w'
 | [],_,_,_,_,_,_,_,_,_,_=>by simp
 | φ :: r,k,h,0,j,v,w1,w',hj,he,hp=>h.1 j hj v w1 w' he hp
 | φ :: r,k,h,i+1,j,v,w1,w',hj,he,hp=>Qk9 (L:=r) h.2 i j v w1 w' (by omega) he hp
theorem Qrc{VO:Nat->Option Nat}{X:Nat->World->World->Prop}{L:List (Value->World->Prop)}(h:QgV VO X 0 L):∀i j v w1 w',i≠j->EsV VO X j w1 w'->Kx L i v w1->Kx L i v w':=λ i j v w1 w' hij he hp=>
 Qk9 h i j v w1 w' (by omega) he hp
theorem QcE{VO:Nat->Option Nat}{X:Nat->World->World->Prop}{i:Nat}{f:Value->Prop}:∀j,j≠i->∀v w1 w',EsV VO X j w1 w'->(λ v (_:World)=>f v) v w1->(λ v (_:World)=>f v) v w':=λ _ _ _ _ _ _ h=>h
def QcU(P:Program)(ops:List Oper)(a0:Act)(w0:World)(VO:Nat->Option Nat)(X:Nat->World->World->Prop)(I:World->Prop)(PR:Nat->Nat->Value->Value->World->Prop)(Φ:Nat->Value->World->Prop)(Q:Exit->Act->World->Prop)(hd:Nat):Nat->Nat->List Oper->Prop
 | _,0,_=>True
 | _,_+1,[]=>True
 | i,n+1,o :: r=>QbI P ops a0 w0 VO X I PR Φ Q hd i o/\QcU P ops a0 w0 VO X I PR Φ Q hd (i+1) n r
theorem QeV{P:Program}{ops:List Oper}{a0:Act}{w0:World}{VO:Nat->Option Nat}{X:Nat->World->World->Prop}{I:World->Prop}{PR:Nat->Nat->Value->Value->World->Prop}{Φ:Nat->Value->World->Prop}{Q:Exit->Act->World->Prop}{hd:Nat}:
  ∀(n k:Nat) (r:List Oper),QcU P ops a0 w0 VO X I PR Φ Q hd k n r->∀(i:Nat) o,i<n->r[i]?=some o->QbI P ops a0 w0 VO X I PR Φ Q hd (k+i) o
 | 0,_,_,_,_,_,h,_=>by omega
 | _+1,_,[],_,_,_,_,h=>by simp at h
 | n+1,k,x :: r,h,0,o,_,ho=>by simp at ho;subst ho;exact h.1
 | n+1,k,x :: r,h,i+1,o,hi,ho=>by
  have:=QeV n (k+1) r h.2 i o (by omega) (by simpa using ho)
  rwa [Nat.add_assoc,Nat.add_comm 1 i]at this
theorem Qmu{P:Program}{ops:List Oper}{a0:Act}{w0:World}{VO:Nat->Option Nat}{X:Nat->World->World->Prop}{I:World->Prop}{PR:Nat->Nat->Value->Value->World->Prop}{Φ:Nat->Value->World->Prop}{Q:Exit->Act->World->Prop}{hd:Nat}(n:Nat)
  (h:QcU P ops a0 w0 VO X I PR Φ Q hd 0 n ops):∀(i:Nat) o,i<n->ops[i]?=some o->QbI P ops a0 w0 VO X I PR Φ Q hd i o:=λ i o hi ho=>by
 have:=QeV n 0 ops h i o hi ho
 rwa [Nat.zero_add]at this
section
variable {P : Program} {ops : List Oper} {a0 : Act} {w0 : World} {VO : Nat → Option Nat} {X : Nat → World → World → Prop} {I : World → Prop} {PR : Nat → Nat → Value → Value → World → Prop} {Φ : Nat → Value → World → Prop} {Q : Exit → Act → World → Prop} {hd : Nat} {i : Nat} {o : Oper}
theorem QjT(h:∀(D:Nat->Prop) a w1,(∀j oj,ops[j]?=some oj->D j->Φ j (J7 oj a) w1)->QtM VO I ops w0 w1 D i->QaH ops a0 hd a->QiB ops Φ a w1 o.after.toList->
  Region.wanted o (yielded ops.toArray a.tmps)=true/\o.wp P a w1 (λ a' w'=>∃v,a'=a.put o.dst v/\EsV VO X i w1 w'/\Φ i (Kg o v) w'/\Qkn ops PR D a i (Kg o v) w') Q):QbI P ops a0 w0 VO X I PR Φ Q hd i o:=λ D a w1 hP hE hO hD=>by
 obtain⟨h1,h2⟩:=h D a w1 hP hE hO hD;rw[if_pos h1];exact h2
theorem QaT{v:Value}(hX:∀j w,X j w w)(hp:∀j vi vj w,PR i j vi vj w/\PR j i vi vj w)(h:∀(D:Nat->Prop) a w1,QtM VO I ops w0 w1 D i->QaH ops a0 hd a->QiB ops Φ a w1 o.after.toList->
  Region.wanted o (yielded ops.toArray a.tmps)=true/\(execOp a.eval o).run P w1=.ok (.value v) w1) (hφ:∀w1,Φ i (Kg o v) w1):QbI P ops a0 w0 VO X I PR Φ Q hd i o:=λ D a w1 hP hE hO hD=>by
 obtain⟨h1,h2⟩:=h D a w1 hE hO hD;rw[if_pos h1];unfold Oper.wp;rw[h2];exact⟨v,rfl,Qku hX w1,hφ w1,λ j oj _ _ _=>⟨(hp j _ _ w1).1,(hp j _ _ w1).2⟩⟩
end
end
def Ze(sort:Nat):List Yz:=match sort with | 1=>Qfm | 2=>QdH | 3=>Qd6 | 4=>Qas | _=>Vq
def Z8(sort:Nat)(s:ByteArray)(a:Nat)(most:Int):Except Int (Int × ByteArray × Nat):=
 match Zz (s.extract a s.size) (Ze sort)with
 | .error k=>.error k
 | .ok (n,rest)=>
  if sort≠0/\most<n then .error 3
  else if sort=1 \/ sort=2 then(if(rest.size:Int)<n then .error 4 else .ok (n,rest.extract 0 n.toNat,s.size - (rest.size - n.toNat)))
  else .ok (n,⟨#[]⟩,s.size - rest.size)
theorem Qit{s:ByteArray}{a:Nat}{most:Int}{sort:Nat}(h:sort=1 \/ sort=2):
  (∃k,Ku s a most (Ze sort)=.error k/\Z8 sort s a most=.error k) \/
  (∃(n:Nat) (t:ByteArray) (a':Nat),Ku s a most (Ze sort)=.ok (.string t,a')/\Z8 sort s a most=.ok ((n:Int),t,a')/\t.size=n/\(n:Int)<=most):=by
 have h0:sort≠0:=by omega
 unfold Ku Z8
 cases hh:Zz (s.extract a s.size) (Ze sort)with
 | error k=>exact .inl ⟨k,rfl,rfl⟩
 | ok x=>
  obtain⟨n,rest⟩:=x;have hb:=QbH (by rcases h with rfl | rfl;exact Qcl;exact Qca) hh
  by_cases h1:most<n
  ·exact .inl ⟨3,by simp only[if_pos h1],by simp only[if_pos (And.intro h0 h1)]⟩
  ·by_cases h2:(rest.size:Int)<n
   ·exact .inl ⟨4,by simp only[if_neg h1,if_pos h2],by simp only[if_neg (λ e:sort≠0/\most<n=>h1 e.2),if_pos h,if_pos h2]⟩
   ·refine .inr ⟨n.toNat,rest.extract 0 n.toNat,s.size - (rest.size - n.toNat),by simp only[if_neg h1,if_neg h2],?_,by rw[ByteArray.size_extract];omega,by omega⟩
    simp only[if_neg (λ e:sort≠0/\most<n=>h1 e.2),if_pos h,if_neg h2];rw[show((n.toNat:Nat):Int)=n by omega]
theorem Qlq{s:ByteArray}{a:Nat}{most:Int}{sort:Nat}(h:sort=3 \/ sort=4):
  (∃k,Km s a most (Ze sort)=.error k/\Z8 sort s a most=.error k) \/
  (∃(n:Nat) (a':Nat),Km s a most (Ze sort)=.ok (.int .i64 n,a')/\Z8 sort s a most=.ok ((n:Int),⟨#[]⟩,a')/\(n:Int)<=most):=by
 have h0:sort≠0:=by omega
 have h3:¬(sort=1 \/ sort=2):=by omega
 unfold Km Z8
 cases hh:Zz (s.extract a s.size) (Ze sort)with
 | error k=>exact .inl ⟨k,rfl,rfl⟩
 | ok x=>
  obtain⟨n,rest⟩:=x;have hb:=QbH (by rcases h with rfl | rfl;exact Qcv;exact QaV) hh
  by_cases h1:most<n
  ·exact .inl ⟨3,by simp only[if_pos h1],by simp only[if_pos (And.intro h0 h1)]⟩
  ·refine .inr ⟨n.toNat,s.size - rest.size,?_,?_,by omega⟩
   ·simp only[if_neg h1];rw[show((n.toNat:Nat):Int)=n by omega]
   ·simp only[if_neg (λ e:sort≠0/\most<n=>h1 e.2),if_neg h3];rw[show((n.toNat:Nat):Int)=n by omega]
theorem QpD{s:ByteArray}{a:Nat}{most:Int}:
  (∃k,Qgt s a Vq=.error k/\Z8 0 s a most=.error k) \/
  (∃(n:Int) (a':Nat),Qgt s a Vq=.ok (.int .u64 n,a')/\Z8 0 s a most=.ok (n,⟨#[]⟩,a')):=by
 unfold Qgt Z8;have e:Ze 0=Vq:=rfl;rw[e]
 cases hh:Zz (s.extract a s.size) Vq with
 | error k=>exact .inl ⟨k,rfl,rfl⟩
 | ok x=>
  obtain⟨n,rest⟩:=x;exact .inr ⟨n,s.size - rest.size,rfl,by simp⟩
theorem Qlt{t:ByteArray}{l:List Yz}{k:Int}(h:Zz t l=.error k):k≠0:=by
 unfold Zz at h
 split at h
 ·cases h;decide
 ·split at h
  ·cases h;decide
  ·next r _=>
   by_cases h1:(t.size:Int)<1+r.size
   ·rw[if_pos h1]at h;cases h;decide
   ·rw[if_neg h1]at h
    obtain⟨v,hv⟩:∃v,(if r.size=0 then Jl t 0 - r.lo else be t r.size.toNat)=v:=⟨_,rfl⟩;simp only[hv]at h
    by_cases h2:v<r.least
    ·rw[if_pos h2]at h;cases h;decide
    ·rw[if_neg h2]at h;cases h
theorem Qlk{sort:Nat}{s:ByteArray}{a:Nat}{most k:Int}(h:Z8 sort s a most=.error k):k≠0:=by
 unfold Z8 at h
 cases hh:Zz (s.extract a s.size) (Ze sort)with
 | error k2=>rw[hh]at h;cases h;exact Qlt hh
 | ok x=>
  obtain⟨n,rest⟩:=x;rw[hh]at h;simp only at h
  split at h
  ·cases h;decide
  ·split at h
   ·split at h
    ·cases h;decide
    ·cases h
   ·cases h
theorem Qie{sort:Nat}{s:ByteArray}{a:Nat}{most:Int}{x:Int × ByteArray × Nat}(h:Z8 sort s a most=.ok x):x.2.2<=s.size:=by
 unfold Z8 at h
 cases hh:Zz (s.extract a s.size) (Ze sort)with
 | error k2=>rw[hh]at h;cases h
 | ok y=>
  obtain⟨n,rest⟩:=y;rw[hh]at h;simp only at h
  split at h
  ·cases h
  ·split at h
   ·split at h
    ·cases h
    ·cases h;exact Nat.sub_le _ _
   ·cases h;exact Nat.sub_le _ _
theorem Qsu(w:World)(s:ByteArray)(m:Int):Calls Tryz.prog 182 #[.string s,.int .i64 m] w λ e w'=>e=.returned (.pointer (some ⟨w.heap.size,0,none⟩))/\w'=w.alloc (.cells #[.string s,.int .i64 0,.int .i64 (max m 0)] 282):=by
 by_cases h:m<0
 ·rw[show max m 0=0 by omega]
  go_enter Tryz.func182,Tryz.ntmps182
  go_wp2;go_ret;exact⟨rfl,by first | rfl | rw[show max m 0=0 by omega]⟩
 ·rw[show max m 0=m by omega]
  go_enter Tryz.func182,Tryz.ntmps182
  go_wp2;go_ret;exact⟨rfl,by first | rfl | rw[show max m 0=m by omega]⟩
theorem Qla(w:World)(s:ByteArray)(m:Int):Calls Tryz.prog 235 #[.string s,.int .i64 m] w λ e w'=>e=.returned (.pointer (some ⟨w.heap.size,0,none⟩))/\w'=w.alloc (.cells #[.string s,.int .i64 0,.int .i64 (max m 0)] 276):=by
 by_cases h:m<0
 ·rw[show max m 0=0 by omega]
  go_enter Tryz.func235,Tryz.ntmps235
  go_wp2;go_ret;exact⟨rfl,by first | rfl | rw[show max m 0=0 by omega]⟩
 ·rw[show max m 0=m by omega]
  go_enter Tryz.func235,Tryz.ntmps235
  go_wp2;go_ret;exact⟨rfl,by first | rfl | rw[show max m 0=m by omega]⟩
structure QrC where
 pos:Int
 L:Int
 signed:Bool
 idx:Int
 ws:List ByteArray
 ps:List ByteArray
 root:ByteArray
 wt:Int
 first:Int
 life:Int
 keys:Int
inductive DV where
 | num (n:Int)
 | flag (q:Bool)
 | str (s:ByteArray)
 | strs (l:List ByteArray)
 | nums (l:List Int)
 | revs (l:List QrC)
def Qpc:DV->Bool
 | .num n=>n == 0
 | .flag q=>!q
 | .str s=>s.size == 0
 | .strs l=>l.length == 0
 | .nums l=>l.length == 0
 | .revs l=>l.length == 0
abbrev Rcd:=Nat->DV
def upd(x:Rcd)(o:Nat)(d:DV):Rcd:=λ i=>if i=o then d else x i
theorem Qa7(x:Rcd)(o:Nat)(d:DV):upd x o d o=d:=if_pos rfl
theorem Qhs{x:Rcd}{o i:Nat}{d:DV}(h:i≠o):upd x o d i=x i:=if_neg h
abbrev Flt:=Int × Nat
def tkR(sort:Nat)(s:ByteArray)(a:Nat):Except Flt (Int × ByteArray × Nat):=
 match Z8 sort s a 10240 with
 | .error k=>.error (k,a)
 | .ok x=>.ok x
def Qpj(s:ByteArray)(a:Nat):Except Flt (Int × Nat):=
 match tkR 0 s a with
 | .error f=>.error f
 | .ok x=>.ok (x.1,x.2.2)
def Qhf(s:ByteArray)(a:Nat):Except Flt (ByteArray × Nat):=
 match tkR 1 s a with
 | .error f=>.error f
 | .ok x=>if x.2.1.size=32 then .ok (x.2.1,x.2.2)else .error (5,0)
def QuU(s:ByteArray)(most:Nat)(a:Nat):Except Flt (Nat × Nat):=
 match tkR 3 s a with
 | .error f=>.error f
 | .ok x=>if x.1<=most then .ok (x.1.toNat,x.2.2)else .error (3,0)
def Quj{α:Type}(rd:Nat->Except Flt (α × Nat)):Nat->Nat->List α->Except Flt (List α × Nat)
 | 0,a,l=>.ok (l,a)
 | n+1,a,l=>
  match rd a with
  | .error f=>.error f
  | .ok x=>Quj rd n x.2 (l++[x.1])
structure Zv where
 key:ByteArray
 must:Bool
 offs:List Nat
 empty:Rcd->Bool
 read:Rcd->Nat->Except Flt (Rcd × Nat)
def Zv.zero:Zv:=⟨ByteArray.empty,false,[],λ _=>true,λ x a=>.ok (x,a)⟩
def gth(l:List Zv)(i:Nat):Zv:=l.getD i Zv.zero
theorem V7(l:List Zv)(i:Nat)(h:i<l.length):gth l i=l[i]:=by unfold gth;rw[List.getD_eq_getElem?_getD,List.getElem?_eq_getElem h];rfl
def Ys(fs:List Zv)(fr:Nat)(k:ByteArray):Option Nat:=(List.range (fs.length - fr)).find? (λ i=>(gth fs (fr+i)).key.toList == k.toList)
theorem QeS{fs:List Zv}{fr:Nat}{k:ByteArray}(h:∀i,i<fs.length - fr->((gth fs (fr+i)).key.toList == k.toList)=false):Ys fs fr k=none:=by unfold Ys;rw[List.find?_eq_none];intro i hi;rw[h i (List.mem_range.1 hi)];decide
theorem QlJ{p:Nat->Bool}{n j:Nat}(hj:j<n)(hp:p j=true)(hn:∀i,i<j->p i=false):(List.range n).find? p=some j:=by rw[List.find?_range_eq_some];refine⟨hp,by simpa using hj,λ i hi=>by rw[hn i hi];rfl⟩
theorem QbK{fs:List Zv}{fr j:Nat}{k:ByteArray}(hj:j<fs.length - fr)(hp:((gth fs (fr+j)).key.toList == k.toList)=true)(hn:∀i,i<j->((gth fs (fr+i)).key.toList == k.toList)=false):Ys fs fr k=some j:=
 QlJ hj hp hn
def Ky(fs:List Zv)(seen:List Nat):Bool:=(List.range fs.length).any λ i=>(gth fs i).must && !seen.contains i
def Zf(s:ByteArray)(fs:List Zv):Nat->Nat->Rcd->List Nat->Nat->Except Flt (Rcd × List Nat × Nat)
 | 0,_,x,seen,a=>.ok (x,seen,a)
 | n+1,fr,x,seen,a=>
  match tkR 2 s a with
  | .error f=>.error f
  | .ok k=>
   match Ys fs fr k.2.1 with
   | none=>.error (5,0)
   | some j=>
    match (gth fs (fr+j)).read x k.2.2 with
    | .error f=>.error f
    | .ok y=>if(gth fs (fr+j)).empty y.1 then .error (5,0)else Zf s fs n (fr+j+1) y.1 ((fr+j) :: seen) y.2
def Qfg(s:ByteArray)(fs:List Zv)(x:Rcd)(a:Nat):Except Flt (Rcd × Nat):=
 match tkR 4 s a with
 | .error f=>.error f
 | .ok n=>
  match Zf s fs n.1.toNat 0 x [] n.2.2 with
  | .error f=>.error f
  | .ok y=>if Ky fs y.2.1 then .error (5,0)else .ok (y.1,y.2.2)
def Xt(s:ByteArray)(fs:List Zv)(x:Rcd):Except Flt Rcd:=
 match Qfg s fs x 0 with
 | .error f=>.error f
 | .ok y=>if y.2<s.size then .error (5,y.2)else .ok y.1
def QbM(s key:ByteArray)(o:Nat):Zv:=⟨key,false,[o],λ x=>Qpc (x o),λ x a=>match Qpj s a with | .error f=>.error f | .ok y=>.ok (upd x o (.num y.1),y.2)⟩
def Qtq(s key:ByteArray)(o:Nat):Zv:=⟨key,false,[o],λ x=>Qpc (x o),λ x a=>match Qpj s a with | .error f=>.error f | .ok y=>.ok (upd x o (.flag (y.1 == 1)),y.2)⟩
def Qax(s key:ByteArray)(o:Nat):Zv:=⟨key,true,[o],λ _=>false,λ x a=>match Qhf s a with | .error f=>.error f | .ok y=>.ok (upd x o (.str y.1),y.2)⟩
def QtL{α:Type}(s key:ByteArray)(o most:Nat)(toD:List α->DV)(rd:Nat->Except Flt (α × Nat)):Zv:=
 ⟨key,false,[o],λ x=>Qpc (x o),λ x a=>match QuU s most a with | .error f=>.error f | .ok k=>match Quj rd k.1 k.2 []with | .error f=>.error f | .ok y=>.ok (upd x o (toD y.1),y.2)⟩
def Qsg(s key:ByteArray)(o most:Nat):Zv:=QtL s key o most .strs (Qhf s)
def Qur(s key:ByteArray)(fs:List Zv):Zv:=⟨key,fs.any λ g=>g.must,fs.flatMap λ g=>g.offs,λ x=>fs.all λ g=>g.empty x,Qfg s fs⟩
def Qtv(s:ByteArray)(o:Nat):List Zv:=[QbM s ⟨#[102]⟩ (o+2),QbM s ⟨#[107]⟩ (o+4),QbM s ⟨#[108]⟩ (o+3),Qax s ⟨#[114]⟩ o,QbM s ⟨#[119]⟩ (o+1)]
def Qtn(s:ByteArray)(o:Nat):List Zv:=[QbM s ⟨#[105]⟩ o,Qsg s ⟨#[112]⟩ (o+2) 16,Qsg s ⟨#[118]⟩ (o+1) 67]
def Qt7(s:ByteArray)(o:Nat):List Zv:=[Qur s ⟨#[103]⟩ (Qtn s (o+2)),QbM s ⟨#[108]⟩ o,Qtq s ⟨#[115]⟩ (o+1)]
def Qv(s:ByteArray):List Zv:=[Qax s ⟨#[112]⟩ 1,QbM s ⟨#[114]⟩ 0,Qax s ⟨#[115]⟩ 3,Qax s ⟨#[116]⟩ 2]
def DV.n:DV->Int | .num n=>n | _=>0
def DV.q:DV->Bool | .flag q=>q | _=>false
def DV.s:DV->ByteArray | .str s=>s | _=>ByteArray.empty
def DV.l:DV->List ByteArray | .strs l=>l | _=>[]
def DV.ns:DV->List Int | .nums l=>l | _=>[]
def DV.rs:DV->List QrC | .revs l=>l | _=>[]
def revC(r:QrC):Rcd:=λ i=>match i with
 | 0=>.num r.pos | 1=>.num r.L | 2=>.flag r.signed | 3=>.num r.idx | 4=>.strs r.ws | 5=>.strs r.ps | 6=>.str r.root | 7=>.num r.wt | 8=>.num r.first | 9=>.num r.life | _=>.num r.keys
def Qm:Rcd:=λ i=>match i with | 1=>.str ⟨#[]⟩ | 2=>.str ⟨#[]⟩ | 3=>.str ⟨#[]⟩ | _=>.num 0
def Zv.Frames(g:Zv):Prop:=∀x a y,g.read x a=.ok y->∀i,i ∉ g.offs->y.1 i=x i
theorem Qj1(s key:ByteArray)(o:Nat):(QbM s key o).Frames:=λ x a y h i hi=>by
 simp only[QbM]at h hi
 split at h
 ·cases h
 ·cases h;exact Qhs (by simpa using hi)
theorem QbN(s key:ByteArray)(o:Nat):(Qax s key o).Frames:=λ x a y h i hi=>by
 simp only[Qax]at h hi
 split at h
 ·cases h
 ·cases h;exact Qhs (by simpa using hi)
theorem Qik{fs:List Zv}{fr j:Nat}{k:ByteArray}(h:Ys fs fr k=some j):fr+j<fs.length:=by unfold Ys at h;have:=List.mem_of_find?_eq_some h;rw[List.mem_range]at this;omega
def Qbr:DV->Nat
 | .num _=>0 | .flag _=>1 | .str _=>2 | .strs _=>3 | .nums _=>4 | .revs _=>5
def Kd(x0 x:Rcd):Prop:=∀i,Qbr (x i)=Qbr (x0 i)
def Zv.Kinds(x0:Rcd)(g:Zv):Prop:=∀x a y,g.read x a=.ok y->Kd x0 x->Kd x0 y.1
theorem Kd.upd{x0 x:Rcd}(h:Kd x0 x){o:Nat}{d:DV}(hd:Qbr d=Qbr (x0 o)):Kd x0 (upd x o d):=λ i=>by
 by_cases e:i=o
 ·subst e;rw[Qa7];exact hd
 ·rw[Qhs e];exact h i
theorem Kd.num{x0 x:Rcd}(h:Kd x0 x){o:Nat}(h0:Qbr (x0 o)=0):∃n,x o=.num n:=by
 have:=(h o).trans h0
 cases hx:x o <;> rw[hx]at this <;> first | exact⟨_,rfl⟩ | cases this
theorem Qlm{x0:Rcd}(s key:ByteArray){o:Nat}(h0:Qbr (x0 o)=0):(QbM s key o).Kinds x0:=λ x a y h hk=>by
 simp only[QbM]at h
 split at h
 ·cases h
 ·cases h;exact hk.upd h0.symm
theorem Qdj{x0:Rcd}(s key:ByteArray){o:Nat}(h0:Qbr (x0 o)=2):(Qax s key o).Kinds x0:=λ x a y h hk=>by
 simp only[Qax]at h
 split at h
 ·cases h
 ·cases h;exact hk.upd h0.symm
theorem QbS{x0:Rcd}{s:ByteArray}{fs:List Zv}(hf:∀g ∈ fs,g.Kinds x0):∀(n fr:Nat) (x:Rcd) (seen:List Nat) (a:Nat) (y:Rcd × List Nat × Nat),Zf s fs n fr x seen a=.ok y->Kd x0 x->Kd x0 y.1
 | 0,fr,x,seen,a,y,h,hk=>by simp only[Zf]at h;cases h;exact hk
 | n+1,fr,x,seen,a,y,h,hk=>by
  simp only[Zf]at h
  split at h
  ·cases h
  ·split at h
   ·cases h
   ·next j hj=>
    have hl:=Qik hj;have hm:gth fs (fr+j) ∈ fs:=by rw[V7 fs _ hl];exact List.getElem_mem _
    split at h
    ·cases h
    ·next z hz=>
     split at h
     ·cases h
     ·exact QbS hf n _ _ _ _ y h (hf _ hm _ _ _ hz hk)
theorem Qmk{x0:Rcd}{s key:ByteArray}{fs:List Zv}(hf:∀g ∈ fs,g.Kinds x0):(Qur s key fs).Kinds x0:=λ x a y h hk=>by
 simp only[Qur,Qfg]at h
 split at h
 ·cases h
 ·split at h
  ·cases h
  ·next z hz=>
   split at h
   ·cases h
   ·cases h;exact QbS hf _ _ _ _ _ z hz hk
def Qcp(f:Nat):List PanicEntry:=[{ v:=.iface 211 (.agg #[.iface 290 (.pointer (some ⟨f,0,none⟩))]),recovered:=false }]
theorem Qgf(k:Int)(w:World):Calls Tryz.prog 250 #[.bool true,.int .i64 k] w λ e w'=>e=.returned (.tuple #[])/\w'=w:=by
 go_enter Tryz.func250,Tryz.ntmps250
 go_wp2
 go_end0
 exact⟨rfl,rfl⟩
theorem Qew(k:Int)(w:World):Calls Tryz.prog 250 #[.bool false,.int .i64 k] w λ e w'=>e=.panicked (Qcp w.heap.size)/\w'=w.alloc (.cells #[.int .i64 k,.int .i64 0] 145):=by
 go_enter Tryz.func250,Tryz.ntmps250
 go_wp2;exact⟨rfl,rfl,rfl⟩
theorem Qmt(n:Int)(w:World):Calls Tryz.prog 207 #[.int .u64 n,.nilIface] w λ e w'=>e=.returned (.int .u64 n)/\w'=w:=by
 go_enter Tryz.func207,Tryz.ntmps207
 go_wp2;go_ret;exact⟨rfl,rfl⟩
theorem Qpf(n:Int)(f:Nat)(w:World):Calls Tryz.prog 207 #[.int .u64 n,.iface 290 (.pointer (some ⟨f,0,none⟩))] w λ e w'=>e=.panicked (Qcp f)/\w'=w:=by
 go_enter Tryz.func207,Tryz.ntmps207
 go_wp2;exact⟨rfl,rfl,rfl⟩
theorem QoV(n:Int)(w:World):Calls Tryz.prog 244 #[.int .i64 n,.nilIface] w λ e w'=>e=.returned (.int .i64 n)/\w'=w:=by
 go_enter Tryz.func244,Tryz.ntmps244
 go_wp2;go_ret;exact⟨rfl,rfl⟩
theorem Qm2(n:Int)(f:Nat)(w:World):Calls Tryz.prog 244 #[.int .i64 n,.iface 290 (.pointer (some ⟨f,0,none⟩))] w λ e w'=>e=.panicked (Qcp f)/\w'=w:=by
 go_enter Tryz.func244,Tryz.ntmps244
 go_wp2;exact⟨rfl,rfl,rfl⟩
theorem Qix(s:ByteArray)(w:World):Calls Tryz.prog 246 #[.string s,.nilIface] w λ e w'=>e=.returned (.string s)/\w'=w:=by
 go_enter Tryz.func246,Tryz.ntmps246
 go_wp2;go_ret;exact⟨rfl,rfl⟩
theorem Qh7(s:ByteArray)(f:Nat)(w:World):Calls Tryz.prog 246 #[.string s,.iface 290 (.pointer (some ⟨f,0,none⟩))] w λ e w'=>e=.panicked (Qcp f)/\w'=w:=by
 go_enter Tryz.func246,Tryz.ntmps246
 go_wp2;exact⟨rfl,rfl,rfl⟩
def Qpn(res:Except Flt (Int × ByteArray × Nat))(val:Int × ByteArray × Nat->Value)(zero:Value)(rb:Nat)(s:ByteArray)(w:World)(e:Ending)(w':World):Prop:=
 Xe (some rb) w w'/\match res with
  | .ok x=>e=.returned (.tuple #[val x,.nilIface])/\RdB w' rb s x.2.2 10240
  | .error f=>∃fb,e=.returned (.tuple #[zero,.iface 290 (.pointer (some ⟨fb,0,none⟩))])/\Qd5 w' fb f.1 f.2/\w.heap.size<=fb
theorem Qgq{x:Int × ByteArray × Nat}{val:Int × ByteArray × Nat->Value}{zero:Value}{rb:Nat}{s:ByteArray}{w w':World}{e:Ending}(h:Qpn (.ok x) val zero rb s w e w'):e=.returned (.tuple #[val x,.nilIface])/\RdB w' rb s x.2.2 10240/\Xe (some rb) w w':=⟨h.2.1,h.2.2,h.1⟩
theorem QdV{f:Flt}{val:Int × ByteArray × Nat->Value}{zero:Value}{rb:Nat}{s:ByteArray}{w w':World}{e:Ending}(h:Qpn (.error f) val zero rb s w e w'):∃fb,e=.returned (.tuple #[zero,.iface 290 (.pointer (some ⟨fb,0,none⟩))])/\Qd5 w' fb f.1 f.2/\Xe (some rb) w w'/\w.heap.size<=fb:=by obtain⟨h1,fb,h2,h3,h4⟩:=h;exact⟨fb,h2,h3,h1,h4⟩
theorem QnP{sort rb a:Nat}{s:ByteArray}{w w':World}{e:Ending}(h12:sort=1 \/ sort=2)(h:Qc2 (Ku s a 10240 (Ze sort)) (.string ⟨#[]⟩) rb s 10240 a w e w'):Qpn (tkR sort s a) (λ x=>.string x.2.1) (.string ⟨#[]⟩) rb s w e w':=by
 obtain⟨h1,h2⟩:=h;refine⟨h1,?_⟩;unfold tkR
 rcases Qit (s:=s) (a:=a) (most:=10240) h12 with⟨k,e1,e2⟩ | ⟨n,t,a',e1,e2,-,-⟩
 ·rw[e1]at h2;rw[e2]
  obtain⟨-,fb,h3,h5,h4⟩:=h2;exact⟨fb,h3,h4,h5⟩
 ·rw[e1]at h2;rw[e2]
  exact h2
theorem Qqz{sort rb a:Nat}{s:ByteArray}{w w':World}{e:Ending}(h34:sort=3 \/ sort=4)(h:Qc2 (Km s a 10240 (Ze sort)) (.int .i64 0) rb s 10240 a w e w'):Qpn (tkR sort s a) (λ x=>.int .i64 x.1) (.int .i64 0) rb s w e w':=by
 obtain⟨h1,h2⟩:=h;refine⟨h1,?_⟩;unfold tkR
 rcases Qlq (s:=s) (a:=a) (most:=10240) h34 with⟨k,e1,e2⟩ | ⟨n,a',e1,e2,-⟩
 ·rw[e1]at h2;rw[e2]
  obtain⟨-,fb,h3,h5,h4⟩:=h2;exact⟨fb,h3,h4,h5⟩
 ·rw[e1]at h2;rw[e2]
  exact h2
theorem QtE{rb a:Nat}{s:ByteArray}{w w':World}{e:Ending}(h:Qc2 (Qgt s a Vq) (.int .u64 0) rb s 10240 a w e w'):Qpn (tkR 0 s a) (λ x=>.int .u64 x.1) (.int .u64 0) rb s w e w':=by
 obtain⟨h1,h2⟩:=h;refine⟨h1,?_⟩;unfold tkR
 rcases QpD (s:=s) (a:=a) (most:=10240)with⟨k,e1,e2⟩ | ⟨n,a',e1,e2⟩
 ·rw[e1]at h2;rw[e2]
  obtain⟨-,fb,h3,h5,h4⟩:=h2;exact⟨fb,h3,h4,h5⟩
 ·rw[e1]at h2;rw[e2]
  exact h2
theorem Qd2{sort:Nat}{s:ByteArray}{a:Nat}{x:Int × ByteArray × Nat}(h5:sort<5)(h:tkR sort s a=.ok x):x.2.2<=s.size/\0<=x.1/\(sort≠0->x.1<=10240)/\x.1<=18446744073709551615/\x.2.1.size<=s.size:=by
 unfold tkR at h
 split at h
 ·cases h
 ·next y hy=>
  cases h
  refine⟨Qie hy,?_⟩;unfold Z8 at hy
  cases hh:Zz (s.extract a s.size) (Ze sort)with
  | error k=>rw[hh]at hy;cases hy
  | ok z=>
   obtain⟨n,rest⟩:=z;rw[hh]at hy;simp only at hy;have hok:∀i,(Ye (Ze sort) i).Ok:=by
    have:sort=0 \/ sort=1 \/ sort=2 \/ sort=3 \/ sort=4:=by omega
    rcases this with rfl | rfl | rfl | rfl | rfl
    ·exact Qbk
    ·exact Qcl
    ·exact Qca
    ·exact Qcv
    ·exact QaV
   obtain⟨n0,n1,hr⟩:=QbH hok hh;rw[ByteArray.size_extract]at hr
   by_cases h1:sort≠0/\(10240:Int)<n
   ·rw[if_pos h1]at hy;cases hy
   ·rw[if_neg h1]at hy
    have n2:sort≠0->n<=10240:=λ h0=>by
     rcases Int.lt_or_le 10240 n with h2 | h2
     ·exact absurd ⟨h0,h2⟩ h1
     ·exact h2
    split at hy
    ·split at hy
     ·cases hy
     ·cases hy;exact⟨n0,n2,n1,by rw[ByteArray.size_extract];omega⟩
    ·cases hy;exact⟨n0,n2,n1,Nat.zero_le _⟩
structure Qaz(B:Nat)(w:World)(qb rb:Nat)(s:ByteArray)(a:Nat):Prop where
 q:w.heap[qb]?=some (.cells #[.pointer (some ⟨rb,0,none⟩)] 217 (0,0))
 r:RdB w rb s a 10240
 tabs:QjO B w
 bq:B<=qb
 br:B<=rb
 ne:qb≠rb
 at_le:a<=s.size
 sz:s.size<=9223372036854775807
theorem Qaz.below{B:Nat}{w w':World}{qb rb:Nat}{s:ByteArray}{a:Nat}(h:Qaz B w qb rb s a)(hb:Below w.heap.size w w'):Qaz B w' qb rb s a:=
 ⟨(hb.block _ (lt_of_block h.q)).trans h.q,h.r.below hb,h.tabs.below hb,h.bq,h.br,h.ne,h.at_le,h.sz⟩
theorem Qrt(w:World)(B qb rb:Nat)(s:ByteArray)(a:Nat)(h:Qaz B w qb rb s a):Calls Tryz.prog 208 #[.pointer (some ⟨rb,0,none⟩)] w (Qpn (tkR 0 s a) (λ x=>.int .u64 x.1) (.int .u64 0) rb s w):=
 (Qss w B rb s a 10240 h.tabs h.r h.at_le h.sz).mono λ e w' hh=>QtE hh
theorem Qt1(w:World)(B qb rb:Nat)(s:ByteArray)(a:Nat)(h:Qaz B w qb rb s a):Calls Tryz.prog 268 #[.pointer (some ⟨rb,0,none⟩)] w (Qpn (tkR 1 s a) (λ x=>.string x.2.1) (.string ⟨#[]⟩) rb s w):=
 (Qs4 w B rb s a 10240 h.tabs h.r h.at_le h.sz (by decide) (by decide)).mono λ e w' hh=>QnP (sort:=1) (.inl rfl) hh
theorem QtR(w:World)(B qb rb:Nat)(s:ByteArray)(a:Nat)(h:Qaz B w qb rb s a):Calls Tryz.prog 247 #[.pointer (some ⟨rb,0,none⟩)] w (Qpn (tkR 2 s a) (λ x=>.string x.2.1) (.string ⟨#[]⟩) rb s w):=
 (QrK w B rb s a 10240 h.tabs h.r h.at_le h.sz (by decide) (by decide)).mono λ e w' hh=>QnP (sort:=2) (.inr rfl) hh
theorem Qt3(w:World)(B qb rb:Nat)(s:ByteArray)(a:Nat)(h:Qaz B w qb rb s a):Calls Tryz.prog 245 #[.pointer (some ⟨rb,0,none⟩)] w (Qpn (tkR 4 s a) (λ x=>.int .i64 x.1) (.int .i64 0) rb s w):=
 (Qs3 w B rb s a 10240 h.tabs h.r h.at_le h.sz (by decide) (by decide)).mono λ e w' hh=>Qqz (sort:=4) (.inr rfl) hh
def VIs{α:Type}(res:Except Flt (α × Nat))(val:α->Value)(rb:Nat)(s:ByteArray)(w:World)(e:Ending)(w':World):Prop:=
 Xe (some rb) w w'/\match res with
  | .ok x=>e=.returned (val x.1)/\RdB w' rb s x.2 10240/\x.2<=s.size
  | .error f=>∃fb,e=.panicked (Qcp fb)/\Qd5 w' fb f.1 f.2
theorem QtT{α:Type}{x:α × Nat}{val:α->Value}{rb:Nat}{s:ByteArray}{w w':World}{e:Ending}(h:VIs (.ok x) val rb s w e w'):e=.returned (val x.1)/\RdB w' rb s x.2 10240/\x.2<=s.size/\Xe (some rb) w w':=⟨h.2.1,h.2.2.1,h.2.2.2,h.1⟩
theorem QsM{α:Type}{f:Flt}{val:α->Value}{rb:Nat}{s:ByteArray}{w w':World}{e:Ending}(h:VIs (.error f:Except Flt (α × Nat)) val rb s w e w'):∃fb,e=.panicked (Qcp fb)/\Qd5 w' fb f.1 f.2/\Xe (some rb) w w':=by obtain⟨h1,fb,h2,h3⟩:=h;exact⟨fb,h2,h3,h1⟩
theorem QoP{rb:Nat}{a b c:World}(h:Xe (some rb) a b)(k:Below b.heap.size b c):Xe (some rb) a c:=Q7 _ _ _ _ h (QdK k)
theorem QfP(B qb rb:Nat)(s:ByteArray)(a:Nat)(w:World)(h:Qaz B w qb rb s a):
  Calls Tryz.prog 214 #[.pointer (some ⟨qb,0,none⟩)] w (VIs (Qhf s a) Value.string rb s w):=by
 have H:=QLh h;have c0:w.cell? ⟨qb,0,none⟩=some (.pointer (some ⟨rb,0,none⟩)):=Qa h.q 0;clear h
 go_enter Tryz.func214,Tryz.ntmps214
 go_wp2_with fail;refine(Qt1 w B qb rb s a H.out).mono ?_;intro e w1 hh
 cases hr:tkR 1 s a with
 | error f=>
  rw[hr]at hh;obtain⟨fb,rfl,hf,hE,-⟩:=QdV hh;have HF:=QLh hf;have HE:=QLh hE;have HR:Hid (Qhf s a=.error f):=QLh (by unfold Qhf;rw[hr]);clear hh hf hE hr;go_wp2_with fail;refine(Qh7 _ fb w1).mono ?_;rintro e w2 ⟨rfl,rfl⟩;go_wp2;refine⟨rfl,?_⟩;rw[HR.out];exact⟨HE.out,fb,rfl,HF.out⟩
 | ok x=>
  rw[hr]at hh;obtain⟨rfl,hrd,hE⟩:=Qgq hh;have HRD:=QLh hrd;have HE:=QLh hE;have hbd:=Qd2 (by decide) hr;have HR:=QLh hr;have hs:=H.out.sz;clear hh hrd hE hr;go_wp2_with fail;refine(Qix _ w1).mono ?_;rintro e w2 ⟨rfl,rfl⟩
  by_cases h32:x.2.1.size=32
  ·have HS:=QLh h32
   have t1:((x.2.1.size:Int) == 32)=true:=by simp;omega
   clear h32;go_wp2_with fail;refine(Qgf 5 w2).mono ?_;rintro e w3 ⟨rfl,rfl⟩;go_wp2;go_ret;unfold Qhf;rw[HR.out];simp only[if_pos HS.out];exact⟨HE.out,rfl,HRD.out,hbd.1⟩
  ·have HS:=QLh h32
   have t1:((x.2.1.size:Int) == 32)=false:=by simp;omega
   clear h32;go_wp2_with fail;refine(Qew 5 w2).mono ?_;rintro e w3 ⟨rfl,rfl⟩;go_wp2;refine⟨rfl,?_⟩;unfold Qhf;rw[HR.out];simp only[if_neg HS.out];exact⟨QoP HE.out (Qf (Below.refl _ _) _),_,rfl,heap_alloc_new _ _⟩
structure Rev where
 pos:Int
 L:Int
 signed:Bool
 idx:Int
 wa:Option Addr
 wn:Nat
 wc:Nat
 pa:Option Addr
 pn:Nat
 pc:Nat
 root:ByteArray
 wt:Int
 first:Int
 life:Int
 keys:Int
def Rev.zero:Rev:=⟨0,0,false,0,none,0,0,none,0,0,ByteArray.empty,0,0,0,0⟩
def Qry(l:List Rev)(i:Nat):Rev:=l.getD i Rev.zero
structure QuS(w:World)(b o:Nat)(r:Rev):Prop where
 c0:w.cell? ⟨b,o,none⟩=some (.int .u64 r.pos)
 c1:w.cell? ⟨b,o+1,none⟩=some (.int .u64 r.L)
 c2:w.cell? ⟨b,o+2,none⟩=some (.bool r.signed)
 c3:w.cell? ⟨b,o+3,none⟩=some (.int .u64 r.idx)
 c4:w.cell? ⟨b,o+4,none⟩=some (.slice r.wa r.wn r.wc)
 c5:w.cell? ⟨b,o+5,none⟩=some (.slice r.pa r.pn r.pc)
 c6:w.cell? ⟨b,o+6,none⟩=some (.string r.root)
 c7:w.cell? ⟨b,o+7,none⟩=some (.int .u64 r.wt)
 c8:w.cell? ⟨b,o+8,none⟩=some (.int .u64 r.first)
 c9:w.cell? ⟨b,o+9,none⟩=some (.int .u64 r.life)
 c10:w.cell? ⟨b,o+10,none⟩=some (.int .u64 r.keys)
def Qut(w:World)(a:Option Addr)(l:List Rev):Prop:=
 ∀i,i<len l->∃b off,a=some ⟨b,off,none⟩/\QuS w b (off+i * 11) (Qry l i)
def sth(l:List ByteArray)(i:Nat):ByteArray:=l.getD i ByteArray.empty
def Txs(w:World)(a:Option Addr)(l:List ByteArray):Prop:=
 ∀i,i<len l->∃b off,a=some ⟨b,off,none⟩/\w.cell? ⟨b,off+i,none⟩=some (.string (sth l i))
def hiL(n:Int):Nat->List Int
 | 0=>[]
 | k+1=>(n / 256 ^ k % 256) :: hiL n k
theorem Vg(n:Int):∀k,(hiL n k).length=k
 | 0=>rfl
 | k+1=>by rw[hiL,List.length_cons,Vg n k]
theorem Qea(n:Int):∀k,hiL n (k+1)=hiL (n / 256) k++[n % 256]
 | 0=>by simp[hiL]
 | k+1=>by
  have e:n / 256 / 256 ^ k=n / (256 * 256 ^ k):=by rw[Int.ediv_ediv];simp
  rw[hiL,Qea n k,hiL,List.cons_append,e,Int.pow_succ,Int.mul_comm]
def toB(x:Int):UInt8:=UInt8.ofNat x.toNat
theorem QoM(x:UInt8):toB (x.toNat:Int)=x:=by simp[toB]
theorem Qs5{x:Int}(h0:0<=x)(h1:x<=255):((toB x).toNat:Int)=x:=by unfold toB;rw[UInt8.toNat_ofNat'];omega
theorem Jc{s t:ByteArray}(h:s.data.toList=t.data.toList):s=t:=ByteArray.ext (Array.ext' h)
theorem Xc(s:ByteArray):s.data.toList.length=s.size:=by rw[Array.length_toList];rfl
def baL(l:List UInt8):ByteArray:=⟨l.toArray⟩
theorem Qc5(l:List UInt8):(baL l).data.toList=l:=rfl
theorem Vc(l:List UInt8):(baL l).size=l.length:=by show l.toArray.size=_;simp
theorem QiI(a b:List UInt8):baL (a++b)=baL a++baL b:=Jc (by rw[Qc5,ByteArray.data_append,Array.toList_append,Qc5,Qc5])
structure Qda where
 below:Int
 first:Int
 size:Int
abbrev Qda.val(r:Qda):Value:=.agg #[.int .u64 r.below,.int .u8 r.first,.int .i64 r.size]
def Qda.cells(r:Qda):List Value:=[.int .u64 r.below,.int .u8 r.first,.int .i64 r.size]
def Qda.zero:Qda:=⟨0,0,0⟩
def Qec(l:List Qda)(i:Nat):Qda:=l.getD i Qda.zero
theorem U3(l:List Qda)(i:Nat)(h:i<l.length):Qec l i=l[i]:=by unfold Qec;rw[List.getD_eq_getElem?_getD,List.getElem?_eq_getElem h];rfl
structure Qig(w:World)(b o:Nat)(r:Qda):Prop where
 c0:w.cell? ⟨b,o,none⟩=some (.int .u64 r.below)
 c1:w.cell? ⟨b,o+1,none⟩=some (.int .u8 r.first)
 c2:w.cell? ⟨b,o+2,none⟩=some (.int .i64 r.size)
theorem Qig.below{w w':World}{b o:Nat}{r:Qda}(h:Qig w b o r)(hb:Below w.heap.size w w'):Qig w' b o r:=by
 have hl:=Ql h.c0;have e:∀q,w'.cell? ⟨b,q,none⟩=w.cell? ⟨b,q,none⟩:=λ q=>hb.cell (p:=⟨b,q,none⟩) hl;obtain⟨c0,c1,c2⟩:=h
 constructor <;> (rw[e];assumption)
def Qel(w:World)(a:Option Addr)(l:List Qda):Prop:=∀i,i<len l->∃b off,a=some ⟨b,off,none⟩/\Qig w b (off+i * 3) (Qec l i)
theorem Qel.take{w:World}{a:Option Addr}{l:List Qda}(h:Qel w a l)(k:Nat):Qel w a (l.take k):=λ i hi=>by
 have hi2:i<l.length/\i<k:=by simp only[len,List.length_take]at hi;omega
 have hi3:i<(l.take k).length:=hi;have e:Qec (l.take k) i=Qec l i:=by rw[U3 l i hi2.1,U3 _ i hi3,List.getElem_take]
 rw[e];exact h i hi2.1
theorem Qel.drop{w:World}{b off:Nat}{l:List Qda}(h:Qel w (some ⟨b,off,none⟩) l)(k:Nat):Qel w (some ⟨b,off+k * 3,none⟩) (l.drop k):=λ i hi=>by
 have hi2:k+i<l.length:=by simp only[len,List.length_drop]at hi;omega
 have hi3:i<(l.drop k).length:=hi;have e:Qec (l.drop k) i=Qec l (k+i):=by rw[U3 l _ hi2,U3 _ i hi3,List.getElem_drop]
 obtain⟨b',off',e2,hc⟩:=h (k+i) hi2
 cases e2
 exact⟨b,_,rfl,by rw[e,show off+k * 3+i * 3=off+(k+i) * 3 by omega];exact hc⟩
def QfE(r:Qda)(n:Int):List UInt8:=if r.size=0 then [toB (r.first+n)]else toB r.first :: (hiL n r.size.toNat).map toB
def Zw(sort:Nat):List Qda:=
 match sort with
 | 1=>[⟨256,196,1⟩,⟨65536,197,2⟩]
 | 2=>[⟨32,160,0⟩,⟨256,217,1⟩,⟨65536,218,2⟩]
 | 3=>[⟨16,144,0⟩,⟨65536,220,2⟩]
 | 4=>[⟨16,128,0⟩,⟨65536,222,2⟩]
 | _=>[⟨128,0,0⟩,⟨256,204,1⟩,⟨65536,205,2⟩,⟨4294967296,206,4⟩,⟨0,207,8⟩]
def Xs(sort:Nat)(n:Int):List UInt8:=
 match (Zw sort).find? (λ r=>decide (n<r.below \/ r.below=0))with
 | some r=>QfE r n
 | none=>[]
def Yy(sort:Nat)(n:Int)(t:ByteArray):ByteArray:=baL (Xs sort n)++(if sort=1 \/ sort=2 then t else ByteArray.empty)
theorem Qn4(n:Int):Xs 0 n=if n<128 then [toB n]else if n<256 then toB 204 :: (hiL n 1).map toB else if n<65536 then toB 205 :: (hiL n 2).map toB else if n<4294967296 then toB 206 :: (hiL n 4).map toB else toB 207 :: (hiL n 8).map toB:=by
 unfold Xs Zw QfE
 by_cases h1:n<128
 ·simp[h1]
 ·by_cases h2:n<256
  ·simp[h1,h2]
  ·by_cases h3:n<65536
   ·simp[h1,h2,h3]
   ·by_cases h4:n<4294967296
    ·simp[h1,h2,h3,h4]
    ·simp[h1,h2,h3,h4]
theorem QmA{n:Int}(h:n<65536):Xs 1 n=if n<256 then toB 196 :: (hiL n 1).map toB else toB 197 :: (hiL n 2).map toB:=by
 unfold Xs Zw QfE
 by_cases h1:n<256
 ·simp[h1]
 ·simp[h1,h]
theorem Qob{n:Int}(h:n<65536):Xs 2 n=if n<32 then [toB (160+n)]else if n<256 then toB 217 :: (hiL n 1).map toB else toB 218 :: (hiL n 2).map toB:=by
 unfold Xs Zw QfE
 by_cases h1:n<32
 ·simp[h1]
 ·by_cases h2:n<256
  ·simp[h1,h2]
  ·simp[h1,h2,h]
theorem Qn2{n:Int}(h:n<65536):Xs 3 n=if n<16 then [toB (144+n)]else toB 220 :: (hiL n 2).map toB:=by
 unfold Xs Zw QfE
 by_cases h1:n<16
 ·simp[h1]
 ·simp[h1,h]
theorem QmL{n:Int}(h:n<65536):Xs 4 n=if n<16 then [toB (128+n)]else toB 222 :: (hiL n 2).map toB:=by
 unfold Xs Zw QfE
 by_cases h1:n<16
 ·simp[h1]
 ·simp[h1,h]
theorem Qc9(sort:Nat)(n:Int):(Xs sort n).length<=9:=by
 unfold Xs
 split
 ·rename_i r hr
  have hm:=List.mem_of_find?_eq_some hr;unfold QfE
  split
  ·simp
  ·rw[List.length_cons,List.length_map,Vg]
   unfold Zw at hm
   split at hm <;> simp at hm <;> (first | (rcases hm with rfl | rfl | rfl | rfl | rfl <;> simp) | (rcases hm with rfl | rfl | rfl <;> simp) | (rcases hm with rfl | rfl <;> simp))
 ·simp
theorem QmD:(Tryz.prog.info? 5).map (λ i=>(i.zero,i.size,i.bytes))=some (some (.int .u8 0),1,1):=by kernel_rfl
theorem QfR(x:Int):∀u ∈ [Value.int .u8 x],u.oneCell'=true:=by intro u hu;simp at hu;subst hu;rfl
def QhG(x:Obj):Prop:=∀cs fr,x≠.cells cs 5 fr
theorem X6{cs:Array Value}{t:TypeId}{fr:Nat × Nat}(h:t≠5):QhG (.cells cs t fr):=λ _ _ e=>by cases e;exact h rfl
structure WK(base b:Nat)(w w':World):Prop where
 bel:Below base w w'
 keep:∀k x,w.heap[k]?=some x->k≠b->QhG x->w'.heap[k]?=some x
theorem WK.refl(base b:Nat)(w:World):WK base b w w:=⟨Below.refl _ _,λ _ _ h _ _=>h⟩
theorem WK.trans{base b:Nat}{w w' w'':World}(h:WK base b w w')(k:WK base b w' w''):WK base b w w'':=⟨h.bel.trans k.bel,λ j x hx hj hn=>k.keep j x (h.keep j x hx hj hn) hj hn⟩
theorem WK.of_below{base b:Nat}{w w':World}(h:Below w.heap.size w w')(hb:base<=w.heap.size):WK base b w w':=⟨h.mono hb,λ k x hx _ _=>(h.block k (lt_of_block hx)).trans hx⟩
theorem WK.next{base b:Nat}{w w1 w2:World}(h:WK base b w w1)(k:Below w1.heap.size w1 w2)(hb:base<=w.heap.size):WK base b w w2:=h.trans (WK.of_below k (Nat.le_trans hb h.bel.size))
def WrB(w:World)(b base:Nat)(s:ByteArray):Prop:=base<=b/\∃v,w.heap[b]?=some (.cells #[v] 233 (0,0))/\w.ownsRow base 5 1 v s.size (Lib.strCells s)
theorem WrB.below{w w':World}{b base:Nat}{s:ByteArray}(h:WrB w b base s)(hb:Below w.heap.size w w'):WrB w' b base s:=by obtain⟨h0,v,h1,h2⟩:=h;exact⟨h0,v,(hb.block _ (lt_of_block h1)).trans h1,Qs h2 hb⟩
theorem WrB.lt{w:World}{b base:Nat}{s:ByteArray}(h:WrB w b base s):b<w.heap.size:=by obtain⟨h0,v,h1,h2⟩:=h;exact lt_of_block h1
theorem Z5{w:World}{base e n k:Nat}{v:Value}{xs:List Value}{x:Obj}(h:w.ownsRow base 5 e v n xs)(hk:w.heap[k]?=some x)(hx:QhG x):some k≠v.ownBlock:=by
 rcases h.2 with⟨rfl,_⟩ | ⟨g,cap,cur,rfl,_,hg,_⟩
 ·intro e;cases e
 ·intro e
  obtain rfl:k=g:=by simpa [Value.ownBlock] using e
  rw[hg]at hk
  cases hk
  exact hx _ _ rfl
theorem QbO{w w1:World}{b base n:Nat}{v v':Value}{xs ys:List Value}{s':ByteArray}(hb:base<=b)(h1:w.heap[b]?=some (.cells #[v] 233 (0,0)))(hown:w.ownsRow base 5 1 v n xs)(hE:Xe v.ownBlock w.drew w1)
  (hown':w1.ownsRow base 5 1 v' s'.size ys) (hy:ys=Lib.strCells s'):
  w1.cell? ⟨b,0,none⟩=some v/\w1.frozen? ⟨b,0,none⟩=false/\WrB (w1.setCell ⟨b,0,none⟩ v') b base s'/\WK base b w (w1.setCell ⟨b,0,none⟩ v'):=by
 have hn8:QhG (.cells #[v] 233 (0,0)):=X6 (by decide);have hlt:=lt_of_block h1;have hb1:w1.heap[b]?=some (.cells #[v] 233 (0,0)):=by rw[hE.block b hlt (Z5 hown h1 hn8)];exact h1
 have hne:=Z5 hown' hb1 hn8;refine⟨Qa hb1 0,Qk hb1 0,⟨hb,v',Qc hb1 v',?_⟩,⟨?_,λ k x hx hk hnx=>?_⟩⟩
 ·subst hy
  refine hown'.kept ⟨rfl,rfl,rfl,(by simp[World.setCell]),λ k _ hk=>Below.heap_setCell _ _ _ k (λ e=>hk (by rw[e]))⟩ (row:=some b) (.inr (λ e=>hne e.symm))
 ·refine Below.setCell (Below.grown ((Below.refl base w).drew) hE (by show base<=w.heap.size;omega) (λ k hk=>(hown.lt k hk).1)) hb v'
 ·rw[Below.heap_setCell _ _ _ _ hk,hE.block k (lt_of_block hx) (Z5 hown hx hnx)];exact hx
theorem Uo{w:World}{base e n:Nat}{v:Value}{xs:List Value}(h:w.ownsRow base e 1 v (n+1) xs):∃g cap,v=.slice (some ⟨g,0,none⟩) (n+1) cap:=by
 rcases h.2 with⟨_,h2⟩ | ⟨g,cap,cur,h3,_⟩
 ·omega
 ·exact⟨g,cap,h3⟩
theorem J9(s t:ByteArray):Lib.strCells (s++t)=Lib.strCells s++Lib.strCells t:=by unfold Lib.strCells;rw[ByteArray.data_append,Array.toList_append,List.map_append]
theorem Yv{y:Int}(h0:0<=y)(h1:y<=255):Lib.strCells (baL [toB y])=[.int .u8 y]:=by unfold Lib.strCells;rw[Qc5,List.map_cons,List.map_nil,Qs5 h0 h1]
theorem Qdf(s:ByteArray)(x:UInt8):(s++baL [x]).size=s.size+1:=by rw[ByteArray.size_append,Vc];rfl
structure Qda.Ok(r:Qda)(n:Int):Prop where
 b0:0<=r.below
 b1:r.below<=18446744073709551615
 f0:0<=r.first
 f1:r.first<=255
 s0:0<=r.size
 s1:r.size<=8
 fit:r.size=0->(n<r.below \/ r.below=0)->r.first+n<=255
def QrG(r:Qda)(n:Int)(s:ByteArray)(b base:Nat)(w:World)(e:Ending)(w':World):Prop:=
 e=.returned (.bool (decide (n<r.below \/ r.below=0)))/\WrB w' b base (if n<r.below \/ r.below=0 then s++baL (QfE r n)else s)/\WK base b w w'
theorem QnB(n:Int)(k i:Nat)(h:i<k):(hiL n k).take (k - i)=(hiL n k).take (k - (i+1))++[n / 256 ^ i % 256]:=by
 have hl:=Vg n k;have key:∀k,i<k->(hiL n k)[k - (i+1)]?=some (n / 256 ^ i % 256):=by
  intro k
  induction k with
  | zero=>intro h;omega
  | succ k ih=>
   intro h;rw[hiL]
   by_cases e:i=k
   ·subst e;simp
   ·have h2:=ih (by omega)
    rw[show k+1 - (i+1)=(k - (i+1))+1 by omega,List.getElem?_cons_succ];exact h2
 have h3:=key k h;rw[show k - i=k - (i+1)+1 by omega,List.take_add_one,h3];rfl
theorem QoA(r:Qda)(bn bw b base:Nat)(n:Int)(s:ByteArray)(w:World)(hn:w.heap[bn]?=some (.cells #[.int .u64 n] 23 (0,0)))(hw:w.heap[bw]?=some (.cells #[.pointer (some ⟨b,0,none⟩)] 177 (0,0)))
  (hW:WrB w b base s) (h0:0<=n) (h1:n<=18446744073709551615) (hr:r.Ok n) (hs:s.size<=70000000000000):
  Calls Tryz.prog 291 #[r.val,.pointer (some ⟨bn,0,none⟩),.pointer (some ⟨bw,0,none⟩)] w (QrG r n s b base w):=by
 have HR:=QLh hr;have HN:=QLh hn;have HW2:=QLh hw;have HWR:=QLh hW;have cn:=Qa hn 0;have cw:=Qa hw 0;simp only[List.getElem?_toArray,List.getElem?_cons_zero]at cn cw;have lbn:=lt_of_block hn;have lbw:=lt_of_block hw;clear hr hn hw hW;unfold Qda.val
 by_cases hx:n<r.below \/ r.below=0
 ·have HX:Hid (decide (n<r.below \/ r.below=0)=true):=QLh (decide_eq_true hx)
  have hcase:decide (r.below<=n)=false \/ (decide (r.below<=n)=true/\decide (0<r.below)=false):=by
   rcases hx with h | h
   ·exact .inl (decide_eq_false (by omega))
   ·exact .inr ⟨decide_eq_true (by omega),decide_eq_false (by omega)⟩
  have HCS:=QLh hcase;have hfit:=λ h=>HR.out.fit h hx;have HFIT:=QLh hfit;have HIF:Hid ((if n<r.below \/ r.below=0 then s++baL (QfE r n)else s)=s++baL (QfE r n)):=QLh (if_pos hx);have f0:=HR.out.f0;have f1:=HR.out.f1;have s0:=HR.out.s0;have s1:=HR.out.s1;clear hx hfit hcase;obtain⟨hbase,v,hv,hown⟩:=HWR.out;have n8w:QhG (.cells #[v] 233 (0,0)):=X6 (by decide);have n8n:QhG (.cells #[.int .u64 n] 23 (0,0)):=X6 (by decide);have n8b:QhG (.cells #[.pointer (some ⟨b,0,none⟩)] 177 (0,0)):=X6 (by decide);have n8r:QhG (.cells #[.int .u64 r.below,.int .u8 r.first,.int .i64 r.size] 336 (0,0)):=X6 (by decide);obtain⟨i0,hi,hz0,hz1,hz2⟩:=info_parts QmD;have cb:=Qa hv 0;simp only[List.getElem?_toArray,List.getElem?_cons_zero]at cb;have HV:=QLh hv;have HOWN0:=QLh hown;have hltb:=HWR.out.lt;have HBS:Hid (base<=w.heap.size):=QLh (by omega);clear hv hown;have hcs:=HCS.out;clear HCS
  rcases hcs with g1 | ⟨g1,g2⟩
  ·skip
   go_enter Tryz.func291,Tryz.ntmps291
   by_cases hsz:r.size=0
   ·have e0:(r.size == 0)=true:=by simpa using hsz
    have HSZ:=QLh hsz;clear hsz;go_upto_region 4 with fail;obtain⟨br,hbr⟩:∃br,w.heap.size=br:=⟨_,rfl⟩;obtain⟨V,hV⟩:∃V,w.alloc (.cells #[.int .u64 r.below,.int .u8 r.first,.int .i64 r.size] 336)=V:=⟨_,rfl⟩;have VB:Hid (Below w.heap.size w V):=QLh (by rw[<-hV];exact Qf (Below.refl _ _) _);have VR:Hid (V.heap[br]?=some (.cells #[.int .u64 r.below,.int .u8 r.first,.int .i64 r.size] 336 (0,0))):=QLh (by rw[<-hV,<-hbr];exact heap_alloc_new _ _);have VN:Hid (V.heap[bn]?=some (.cells #[.int .u64 n] 23 (0,0))):=QLh ((VB.out.block _ (lt_of_block HN.out)).trans HN.out);have VW:Hid (V.heap[bw]?=some (.cells #[.pointer (some ⟨b,0,none⟩)] 177 (0,0))):=QLh ((VB.out.block _ (lt_of_block HW2.out)).trans HW2.out);have VV:Hid (V.heap[b]?=some (.cells #[v] 233 (0,0))):=QLh ((VB.out.block _ hltb).trans HV.out);have HOWN:=QLh (Qs HOWN0.out VB.out);have HQ:Hid (∀g,v.ownBlock=some g->base<=g/\g<V.heap.size):=QLh (λ g hg=>HOWN.out.lt g hg);have n1:=Z5 HOWN.out VN.out n8n;have n2:=Z5 HOWN.out VW.out n8b;have n3:=Z5 HOWN.out VR.out n8r;have n4:=Z5 HOWN.out VV.out n8w;have c1:V.cell? ⟨bn,0,none⟩=some (.int .u64 n):=Qa VN.out 0;have c2:V.cell? ⟨bw,0,none⟩=some (.pointer (some ⟨b,0,none⟩)):=Qa VW.out 0;have c3:V.cell? ⟨br,1,none⟩=some (.int .u8 r.first):=Qa VR.out 1;have c4:V.cell? ⟨b,0,none⟩=some v:=Qa VV.out 0;have hbV:base<=V.heap.size:=Nat.le_trans hbase (Nat.le_of_lt (lt_of_block VV.out));obtain⟨y,hy⟩:∃y,r.first+n=y:=⟨_,rfl⟩;have hy1:y<=255:=by rw[<-hy];exact HFIT.out HSZ.out
    have y0:IntKind.u8.wrap n=n:=IntWalk.u8_in _ (by omega);have y1:IntKind.u8.wrap (r.first+n)=y:=by rw[hy];exact IntWalk.u8_in _ (by omega)
    have hy0:0<=y:=by omega
    have HY:=QLh hy;rw[hbr]
    try rw[hV]
    clear hV hbr hy cn cw cb;refine Qp 14 11 (v.ownBlock) (Kx [λ u _=>u=(.pointer (some ⟨b,0,none⟩)),λ u _=>u=(.pointer (some ⟨b,0,none⟩)),λ u _=>u=(.pointer (some ⟨b,0,none⟩)),λ u _=>u=(.pointer (some ⟨b,0,none⟩)),λ u _=>u=(v),λ u _=>u=(.pointer (some ⟨br,1,none⟩)),λ u _=>u=(.int .u8 r.first),λ u _=>u=(.int .u64 n),λ u _=>u=(.int .u8 n),λ u _=>u=(.int .u8 y),λ u w'=>∃b,u=.slice (some ⟨b,0,none⟩) 1 1/\some b≠v.ownBlock/\w'.heap[b]?=some (.cells ([.int .u8 y]).toArray 5 (0,0)),λ u w'=>w'.ownsRow (base) 5 1 u (s.size+1) (Lib.strCells s++[.int .u8 y]),λ u _=>u=(.pointer (some ⟨b,0,none⟩)),λ u _=>u=(.pointer (some ⟨b,0,none⟩))]) rfl (by kernel_rfl) (by kernel_rfl) (Q9 ⟨Qd,Qd,Qd,Qd,Qd,Qd,Qd,Qd,Qd,Qd,?m10,?m11,Qd,Qd,trivial⟩) (Q6 14 ⟨?s0,?s1,?s2,?s3,?s4,?s5,?s6,?s7,?s8,?s9,?s10,?s11,?s12,?s13,trivial⟩) ?_
    case m10=>exact⟨λ u w1 w' h ⟨b,h1,hb,hb'⟩=>⟨b,h1,hb,Zo h hb'⟩,λ _ u w1 w' h ⟨b,h1,hb,hb'⟩=>⟨b,h1,hb,Qw h hb hb'⟩⟩
    case m11=>exact⟨λ u w1 w' h hu=>Qs hu h,λ hn=>absurd rfl hn⟩
    case s0=>refine Qi (v:=(.pointer (some ⟨b,0,none⟩))) (λ av wv hE hS hO hD=>?_) (λ _=>rfl);have f2:=QEf av 2 (.pointer (some ⟨bw,0,none⟩)) (hO.2.2 2 rfl);have c1:=Qb hE n1 c1;have c2:=Qb hE n2 c2;have c3:=Qb hE n3 c3;have c4:=Qb hE n4 c4;refine⟨rfl,?_⟩;simp[go_sem,f2,c1,c2,c3,c4,y0,y1]
    case s1=>refine Qi (v:=(.pointer (some ⟨b,0,none⟩))) (λ av wv hE hS hO hD=>?_) (λ _=>rfl);have f2:=QEf av 2 (.pointer (some ⟨bw,0,none⟩)) (hO.2.2 2 rfl);have c1:=Qb hE n1 c1;have c2:=Qb hE n2 c2;have c3:=Qb hE n3 c3;have c4:=Qb hE n4 c4;refine⟨rfl,?_⟩;simp[go_sem,f2,c1,c2,c3,c4,y0,y1]
    case s2=>refine Qi (v:=(.pointer (some ⟨b,0,none⟩))) (λ av wv hE hS hO hD=>?_) (λ _=>rfl);have f19:=QEf av 19 (.pointer (some ⟨b,0,none⟩)) (hD.1 rfl _ rfl);refine⟨rfl,?_⟩;simp[go_sem,f19,y0,y1]
    case s3=>refine Qi (v:=(.pointer (some ⟨b,0,none⟩))) (λ av wv hE hS hO hD=>?_) (λ _=>rfl);have f20:=QEf av 20 (.pointer (some ⟨b,0,none⟩)) (hD.1 rfl _ rfl);refine⟨rfl,?_⟩;simp[go_sem,f20,y0,y1]
    case s4=>refine Qi (v:=(v)) (λ av wv hE hS hO hD=>?_) (λ _=>rfl);have f21:=QEf av 21 (.pointer (some ⟨b,0,none⟩)) (hD.1 rfl _ rfl);have c1:=Qb hE n1 c1;have c2:=Qb hE n2 c2;have c3:=Qb hE n3 c3;have c4:=Qb hE n4 c4;refine⟨rfl,?_⟩;simp[go_sem,f21,c1,c2,c3,c4,y0,y1]
    case s5=>refine Qi (v:=(.pointer (some ⟨br,1,none⟩))) (λ av wv hE hS hO hD=>?_) (λ _=>rfl);have f3:=QEf av 3 (.pointer (some ⟨br,0,none⟩)) (hO.2.2 3 rfl);refine⟨rfl,?_⟩;simp[go_sem,f3,y0,y1]
    case s6=>refine Qi (v:=(.int .u8 r.first)) (λ av wv hE hS hO hD=>?_) (λ _=>rfl);have f23:=QEf av 23 (.pointer (some ⟨br,1,none⟩)) (hD.1 rfl _ rfl);have c1:=Qb hE n1 c1;have c2:=Qb hE n2 c2;have c3:=Qb hE n3 c3;have c4:=Qb hE n4 c4;refine⟨rfl,?_⟩;simp[go_sem,f23,c1,c2,c3,c4,y0,y1]
    case s7=>refine Qi (v:=(.int .u64 n)) (λ av wv hE hS hO hD=>?_) (λ _=>rfl);have f1:=QEf av 1 (.pointer (some ⟨bn,0,none⟩)) (hO.2.2 1 rfl);have c1:=Qb hE n1 c1;have c2:=Qb hE n2 c2;have c3:=Qb hE n3 c3;have c4:=Qb hE n4 c4;refine⟨rfl,?_⟩;simp[go_sem,f1,c1,c2,c3,c4,y0,y1]
    case s8=>refine Qi (v:=(.int .u8 n)) (λ av wv hE hS hO hD=>?_) (λ _=>rfl);have f25:=QEf av 25 (.int .u64 n) (hD.1 rfl _ rfl);refine⟨rfl,?_⟩;simp[go_sem,f25,y0,y1]
    case s9=>refine Qi (v:=(.int .u8 y)) (λ av wv hE hS hO hD=>?_) (λ _=>rfl);have f24:=QEf av 24 (.int .u8 r.first) (hD.1 rfl _ rfl);have f26:=QEf av 26 (.int .u8 n) (hD.2.1 rfl _ rfl);refine⟨rfl,?_⟩;simp[go_sem,f24,f26,y0,y1]
    case s10=>
     refine Qu (λ av wv hE hS hO hD=>?_);have f27:=QEf av 27 (.int .u8 y) (hD.1 rfl _ rfl);refine⟨rfl,?_⟩;refine Zn (v:=.slice (some ⟨wv.heap.size,0,none⟩) 1 1) (w':=wv.alloc (.cells ([.int .u8 y]).toArray 5)) (by first | (simp[go_sem,f27,y0,y1];done) | (simp[go_sem,f27,y0,y1];rfl)) ⟨_,rfl,Qo (Qf (Zj _) _),wv.heap.size,rfl,?_,heap_alloc_new _ _⟩
     exact λ e=>absurd (HQ.out _ e.symm).2 (by have:=hE.size;simp at this;omega)
    case s11=>refine Qu (λ av wv hE hS hO hD=>?_);have d22:av.eval (.tmp 22)=(v):=hD.1 rfl _ rfl;have f22:=(Xd av 22).symm.trans d22;have d28:(λ u w'=>∃b,u=.slice (some ⟨b,0,none⟩) 1 1/\some b≠v.ownBlock/\w'.heap[b]?=some (.cells ([.int .u8 y]).toArray 5 (0,0))) (av.eval (.tmp 28)) wv:=hD.2.1 rfl _ rfl;refine⟨rfl,?_⟩;obtain⟨bS,hS1,hbS,hcS⟩:=d28;have hown1:wv.ownsRow (base) 5 1 (v) (s.size) (Lib.strCells s):=Qs (w:=World.drew _) (HOWN.out) (hS rfl);refine wp_append_lies wv _ _ _ rfl (base) 5 i0 (.int .u8 0) 1 1 Tryz.underlying41 hi hz0 hz1 hz2 rfl (by decide) (v) (s.size) _ d22 hown1 ⟨bS,0,none⟩ 1 1 ([.int .u8 y]) (by exact hS1) rfl (World.news_of_block hcS) (QfR _) (by decide) (by unfold maxLen;omega) (by omega) (by have:=hE.size;simp at this;omega) _ rfl ?_;intro g cap1 w2 hown2 hgrow hat hlt2;exact⟨_,rfl,QcH hgrow,hown2⟩
    case s12=>refine Qi (v:=(.pointer (some ⟨b,0,none⟩))) (λ av wv hE hS hO hD=>?_) (λ _=>rfl);have f18:=QEf av 18 (.pointer (some ⟨b,0,none⟩)) (hD.1 rfl _ rfl);refine⟨rfl,?_⟩;simp[go_sem,f18,y0,y1]
    case s13=>refine Qi (v:=(.pointer (some ⟨b,0,none⟩))) (λ av wv hE hS hO hD=>?_) (λ _=>rfl);have f30:=QEf av 30 (.pointer (some ⟨b,0,none⟩)) (hD.1 rfl _ rfl);refine⟨rfl,?_⟩;simp[go_sem,f30,y0,y1]
    intro a' w' hE hO hall;have hA:=Qn (ds:=[18,19,20,21,22,23,24,25,26,27,28,29,30,31]) rfl hO (by kernel_rfl);have e18:a'.eval (.tmp 18)=(.pointer (some ⟨b,0,none⟩)):=hall.1 _ rfl;have e19:a'.eval (.tmp 19)=(.pointer (some ⟨b,0,none⟩)):=hall.2.1 _ rfl;have e20:a'.eval (.tmp 20)=(.pointer (some ⟨b,0,none⟩)):=hall.2.2.1 _ rfl;have e21:a'.eval (.tmp 21)=(.pointer (some ⟨b,0,none⟩)):=hall.2.2.2.1 _ rfl;have e22:a'.eval (.tmp 22)=(v):=hall.2.2.2.2.1 _ rfl;have e23:a'.eval (.tmp 23)=(.pointer (some ⟨br,1,none⟩)):=hall.2.2.2.2.2.1 _ rfl;have e24:a'.eval (.tmp 24)=(.int .u8 r.first):=hall.2.2.2.2.2.2.1 _ rfl;have e25:a'.eval (.tmp 25)=(.int .u64 n):=hall.2.2.2.2.2.2.2.1 _ rfl;have e26:a'.eval (.tmp 26)=(.int .u8 n):=hall.2.2.2.2.2.2.2.2.1 _ rfl;have e27:a'.eval (.tmp 27)=(.int .u8 y):=hall.2.2.2.2.2.2.2.2.2.1 _ rfl;have e28:(λ u w'=>∃b,u=.slice (some ⟨b,0,none⟩) 1 1/\some b≠v.ownBlock/\w'.heap[b]?=some (.cells ([.int .u8 y]).toArray 5 (0,0))) (a'.eval (.tmp 28)) w':=hall.2.2.2.2.2.2.2.2.2.2.1 _ rfl;have e29:(λ u w'=>w'.ownsRow (base) 5 1 u (s.size+1) (Lib.strCells s++[.int .u8 y])) (a'.eval (.tmp 29)) w':=hall.2.2.2.2.2.2.2.2.2.2.2.1 _ rfl;have e30:a'.eval (.tmp 30)=(.pointer (some ⟨b,0,none⟩)):=hall.2.2.2.2.2.2.2.2.2.2.2.2.1 _ rfl;have e31:a'.eval (.tmp 31)=(.pointer (some ⟨b,0,none⟩)):=hall.2.2.2.2.2.2.2.2.2.2.2.2.2.1 _ rfl;obtain⟨v28,hv28⟩:∃v,a'.eval (.tmp 28)=v:=⟨_,rfl⟩;rw[hv28]at e28;obtain⟨v29,hv29⟩:∃v,a'.eval (.tmp 29)=v:=⟨_,rfl⟩;rw[hv29]at e29;simp only[List.foldl_cons,List.foldl_nil,Act.put,List.setIfInBounds_toArray,List.set_cons_succ,List.set_cons_zero,e18,e19,e20,e21,e22,e23,e24,e25,e26,e27,hv28,hv29,e30,e31]at hA;clear hO hall e18 e19 e20 e21 e22 e23 e24 e25 e26 e27 hv28 hv29 e30 e31;subst hA;obtain⟨ga,gc,rfl⟩:=Uo e29;have hst:=QbO (s':=s++baL [toB y]) hbase VV.out HOWN.out hE (by rw[Qdf];exact e29) (by rw[J9,Yv hy0 hy1]);have HST:=QLh hst;have hc4:=hst.1;have hf4:=hst.2.1;clear hst hE e29;go_wp2;go_ret;refine⟨Xv HX.out.symm,?_,(WK.of_below VB.out HBS.out).trans HST.out.2.2.2⟩;rw[HIF.out];have e4:QfE r n=[toB y]:=by unfold QfE;rw[if_pos HSZ.out,HY.out]
    rw[e4];exact HST.out.2.2.1
   ·have e0:(r.size == 0)=false:=by simpa using hsz
    have HSZ:=QLh hsz;clear hsz;go_upto_region 6 with fail;obtain⟨br,hbr⟩:∃br,w.heap.size=br:=⟨_,rfl⟩;obtain⟨V,hV⟩:∃V,w.alloc (.cells #[.int .u64 r.below,.int .u8 r.first,.int .i64 r.size] 336)=V:=⟨_,rfl⟩;have VB:Hid (Below w.heap.size w V):=QLh (by rw[<-hV];exact Qf (Below.refl _ _) _);have VR:Hid (V.heap[br]?=some (.cells #[.int .u64 r.below,.int .u8 r.first,.int .i64 r.size] 336 (0,0))):=QLh (by rw[<-hV,<-hbr];exact heap_alloc_new _ _);have VN:Hid (V.heap[bn]?=some (.cells #[.int .u64 n] 23 (0,0))):=QLh ((VB.out.block _ (lt_of_block HN.out)).trans HN.out);have VW:Hid (V.heap[bw]?=some (.cells #[.pointer (some ⟨b,0,none⟩)] 177 (0,0))):=QLh ((VB.out.block _ (lt_of_block HW2.out)).trans HW2.out);have VV:Hid (V.heap[b]?=some (.cells #[v] 233 (0,0))):=QLh ((VB.out.block _ hltb).trans HV.out);have HOWN:=QLh (Qs HOWN0.out VB.out);have HQ:Hid (∀g,v.ownBlock=some g->base<=g/\g<V.heap.size):=QLh (λ g hg=>HOWN.out.lt g hg);have n1:=Z5 HOWN.out VN.out n8n;have n2:=Z5 HOWN.out VW.out n8b;have n3:=Z5 HOWN.out VR.out n8r;have n4:=Z5 HOWN.out VV.out n8w;have c1:V.cell? ⟨bn,0,none⟩=some (.int .u64 n):=Qa VN.out 0;have c2:V.cell? ⟨bw,0,none⟩=some (.pointer (some ⟨b,0,none⟩)):=Qa VW.out 0;have c3:V.cell? ⟨br,1,none⟩=some (.int .u8 r.first):=Qa VR.out 1;have c4:V.cell? ⟨b,0,none⟩=some v:=Qa VV.out 0;have hbV:base<=V.heap.size:=Nat.le_trans hbase (Nat.le_of_lt (lt_of_block VV.out));rw[hbr]
    try rw[hV]
    clear hV hbr cn cw cb;refine Qp 11 8 (v.ownBlock) (Kx [λ u _=>u=(.pointer (some ⟨b,0,none⟩)),λ u _=>u=(.pointer (some ⟨b,0,none⟩)),λ u _=>u=(.pointer (some ⟨b,0,none⟩)),λ u _=>u=(.pointer (some ⟨b,0,none⟩)),λ u _=>u=(v),λ u _=>u=(.pointer (some ⟨br,1,none⟩)),λ u _=>u=(.int .u8 r.first),λ u w'=>∃b,u=.slice (some ⟨b,0,none⟩) 1 1/\some b≠v.ownBlock/\w'.heap[b]?=some (.cells ([.int .u8 r.first]).toArray 5 (0,0)),λ u w'=>w'.ownsRow (base) 5 1 u (s.size+1) (Lib.strCells s++[.int .u8 r.first]),λ u _=>u=(.pointer (some ⟨b,0,none⟩)),λ u _=>u=(.pointer (some ⟨b,0,none⟩))]) rfl (by kernel_rfl) (by kernel_rfl) (Q9 ⟨Qd,Qd,Qd,Qd,Qd,Qd,Qd,?m7,?m8,Qd,Qd,trivial⟩) (Q6 11 ⟨?s0,?s1,?s2,?s3,?s4,?s5,?s6,?s7,?s8,?s9,?s10,trivial⟩) ?_
    case m7=>exact⟨λ u w1 w' h ⟨b,h1,hb,hb'⟩=>⟨b,h1,hb,Zo h hb'⟩,λ _ u w1 w' h ⟨b,h1,hb,hb'⟩=>⟨b,h1,hb,Qw h hb hb'⟩⟩
    case m8=>exact⟨λ u w1 w' h hu=>Qs hu h,λ hn=>absurd rfl hn⟩
    case s0=>refine Qi (v:=(.pointer (some ⟨b,0,none⟩))) (λ av wv hE hS hO hD=>?_) (λ _=>rfl);have f2:=QEf av 2 (.pointer (some ⟨bw,0,none⟩)) (hO.2.2 2 rfl);have c1:=Qb hE n1 c1;have c2:=Qb hE n2 c2;have c3:=Qb hE n3 c3;have c4:=Qb hE n4 c4;refine⟨rfl,?_⟩;simp[go_sem,f2,c1,c2,c3,c4]
    case s1=>refine Qi (v:=(.pointer (some ⟨b,0,none⟩))) (λ av wv hE hS hO hD=>?_) (λ _=>rfl);have f2:=QEf av 2 (.pointer (some ⟨bw,0,none⟩)) (hO.2.2 2 rfl);have c1:=Qb hE n1 c1;have c2:=Qb hE n2 c2;have c3:=Qb hE n3 c3;have c4:=Qb hE n4 c4;refine⟨rfl,?_⟩;simp[go_sem,f2,c1,c2,c3,c4]
    case s2=>refine Qi (v:=(.pointer (some ⟨b,0,none⟩))) (λ av wv hE hS hO hD=>?_) (λ _=>rfl);have f33:=QEf av 33 (.pointer (some ⟨b,0,none⟩)) (hD.1 rfl _ rfl);refine⟨rfl,?_⟩;simp[go_sem,f33]
    case s3=>refine Qi (v:=(.pointer (some ⟨b,0,none⟩))) (λ av wv hE hS hO hD=>?_) (λ _=>rfl);have f34:=QEf av 34 (.pointer (some ⟨b,0,none⟩)) (hD.1 rfl _ rfl);refine⟨rfl,?_⟩;simp[go_sem,f34]
    case s4=>refine Qi (v:=(v)) (λ av wv hE hS hO hD=>?_) (λ _=>rfl);have f35:=QEf av 35 (.pointer (some ⟨b,0,none⟩)) (hD.1 rfl _ rfl);have c1:=Qb hE n1 c1;have c2:=Qb hE n2 c2;have c3:=Qb hE n3 c3;have c4:=Qb hE n4 c4;refine⟨rfl,?_⟩;simp[go_sem,f35,c1,c2,c3,c4]
    case s5=>refine Qi (v:=(.pointer (some ⟨br,1,none⟩))) (λ av wv hE hS hO hD=>?_) (λ _=>rfl);have f3:=QEf av 3 (.pointer (some ⟨br,0,none⟩)) (hO.2.2 3 rfl);refine⟨rfl,?_⟩;simp[go_sem,f3]
    case s6=>refine Qi (v:=(.int .u8 r.first)) (λ av wv hE hS hO hD=>?_) (λ _=>rfl);have f37:=QEf av 37 (.pointer (some ⟨br,1,none⟩)) (hD.1 rfl _ rfl);have c1:=Qb hE n1 c1;have c2:=Qb hE n2 c2;have c3:=Qb hE n3 c3;have c4:=Qb hE n4 c4;refine⟨rfl,?_⟩;simp[go_sem,f37,c1,c2,c3,c4]
    case s7=>
     refine Qu (λ av wv hE hS hO hD=>?_);have f38:=QEf av 38 (.int .u8 r.first) (hD.1 rfl _ rfl);refine⟨rfl,?_⟩;refine Zn (v:=.slice (some ⟨wv.heap.size,0,none⟩) 1 1) (w':=wv.alloc (.cells ([.int .u8 r.first]).toArray 5)) (by first | (simp[go_sem,f38];done) | (simp[go_sem,f38];rfl)) ⟨_,rfl,Qo (Qf (Zj _) _),wv.heap.size,rfl,?_,heap_alloc_new _ _⟩
     exact λ e=>absurd (HQ.out _ e.symm).2 (by have:=hE.size;simp at this;omega)
    case s8=>refine Qu (λ av wv hE hS hO hD=>?_);have d36:av.eval (.tmp 36)=(v):=hD.1 rfl _ rfl;have f36:=(Xd av 36).symm.trans d36;have d39:(λ u w'=>∃b,u=.slice (some ⟨b,0,none⟩) 1 1/\some b≠v.ownBlock/\w'.heap[b]?=some (.cells ([.int .u8 r.first]).toArray 5 (0,0))) (av.eval (.tmp 39)) wv:=hD.2.1 rfl _ rfl;refine⟨rfl,?_⟩;obtain⟨bS,hS1,hbS,hcS⟩:=d39;have hown1:wv.ownsRow (base) 5 1 (v) (s.size) (Lib.strCells s):=Qs (w:=World.drew _) (HOWN.out) (hS rfl);refine wp_append_lies wv _ _ _ rfl (base) 5 i0 (.int .u8 0) 1 1 Tryz.underlying41 hi hz0 hz1 hz2 rfl (by decide) (v) (s.size) _ d36 hown1 ⟨bS,0,none⟩ 1 1 ([.int .u8 r.first]) (by exact hS1) rfl (World.news_of_block hcS) (QfR _) (by decide) (by unfold maxLen;omega) (by omega) (by have:=hE.size;simp at this;omega) _ rfl ?_;intro g cap1 w2 hown2 hgrow hat hlt2;exact⟨_,rfl,QcH hgrow,hown2⟩
    case s9=>refine Qi (v:=(.pointer (some ⟨b,0,none⟩))) (λ av wv hE hS hO hD=>?_) (λ _=>rfl);have f32:=QEf av 32 (.pointer (some ⟨b,0,none⟩)) (hD.1 rfl _ rfl);refine⟨rfl,?_⟩;simp[go_sem,f32]
    case s10=>refine Qi (v:=(.pointer (some ⟨b,0,none⟩))) (λ av wv hE hS hO hD=>?_) (λ _=>rfl);have f41:=QEf av 41 (.pointer (some ⟨b,0,none⟩)) (hD.1 rfl _ rfl);refine⟨rfl,?_⟩;simp[go_sem,f41]
    intro a' w' hE hO hall;have hA:=Qn (ds:=[32,33,34,35,36,37,38,39,40,41,42]) rfl hO (by kernel_rfl);have e32:a'.eval (.tmp 32)=(.pointer (some ⟨b,0,none⟩)):=hall.1 _ rfl;have e33:a'.eval (.tmp 33)=(.pointer (some ⟨b,0,none⟩)):=hall.2.1 _ rfl;have e34:a'.eval (.tmp 34)=(.pointer (some ⟨b,0,none⟩)):=hall.2.2.1 _ rfl;have e35:a'.eval (.tmp 35)=(.pointer (some ⟨b,0,none⟩)):=hall.2.2.2.1 _ rfl;have e36:a'.eval (.tmp 36)=(v):=hall.2.2.2.2.1 _ rfl;have e37:a'.eval (.tmp 37)=(.pointer (some ⟨br,1,none⟩)):=hall.2.2.2.2.2.1 _ rfl;have e38:a'.eval (.tmp 38)=(.int .u8 r.first):=hall.2.2.2.2.2.2.1 _ rfl;have e39:(λ u w'=>∃b,u=.slice (some ⟨b,0,none⟩) 1 1/\some b≠v.ownBlock/\w'.heap[b]?=some (.cells ([.int .u8 r.first]).toArray 5 (0,0))) (a'.eval (.tmp 39)) w':=hall.2.2.2.2.2.2.2.1 _ rfl;have e40:(λ u w'=>w'.ownsRow (base) 5 1 u (s.size+1) (Lib.strCells s++[.int .u8 r.first])) (a'.eval (.tmp 40)) w':=hall.2.2.2.2.2.2.2.2.1 _ rfl;have e41:a'.eval (.tmp 41)=(.pointer (some ⟨b,0,none⟩)):=hall.2.2.2.2.2.2.2.2.2.1 _ rfl;have e42:a'.eval (.tmp 42)=(.pointer (some ⟨b,0,none⟩)):=hall.2.2.2.2.2.2.2.2.2.2.1 _ rfl;obtain⟨v39,hv39⟩:∃v,a'.eval (.tmp 39)=v:=⟨_,rfl⟩;rw[hv39]at e39;obtain⟨v40,hv40⟩:∃v,a'.eval (.tmp 40)=v:=⟨_,rfl⟩;rw[hv40]at e40;simp only[List.foldl_cons,List.foldl_nil,Act.put,List.setIfInBounds_toArray,List.set_cons_succ,List.set_cons_zero,e32,e33,e34,e35,e36,e37,e38,hv39,hv40,e41,e42]at hA;clear hO hall e32 e33 e34 e35 e36 e37 e38 hv39 hv40 e41 e42;subst hA;obtain⟨ga,gc,rfl⟩:=Uo e40;have hst:=QbO (s':=s++baL [toB r.first]) hbase VV.out HOWN.out hE (by rw[Qdf];exact e40) (by rw[J9,Yv f0 f1]);have HST:=QLh hst;have hc4:=hst.1;have hf4:=hst.2.1;have HBR:Hid (w'.cell? ⟨br,2,none⟩=some (.int .i64 r.size)):=QLh (Qb hE n3 (Qa VR.out 2));clear hst hE e40 c1 c2 c3 c4;have hne:br≠b:=λ e=>by have h1:=VR.out;rw[e,VV.out]at h1;cases h1
    have c5:(w'.setCell ⟨b,0,none⟩ (.slice (some ⟨ga,0,none⟩) (s.size+1) gc)).cell? ⟨br,2,none⟩=some (.int .i64 r.size):=by have h:=(HST.out.2.2.2).keep br _ VR.out hne n8r;exact Qa h 2
    obtain⟨k,hk⟩:=Int.eq_ofNat_of_zero_le s0;have HKK:=QLh hk;have k8:k<=8:=by omega
    rw[hk]at c5;have hw1:IntKind.i64.wrap ((k:Int) - 1)=(k:Int) - 1:=IntWalk.i64_in _ (by omega);clear hk HBR;go_wp2;obtain⟨V2,hV2⟩:∃V2,w'.setCell ⟨b,0,none⟩ (.slice (some ⟨ga,0,none⟩) (s.size+1) gc)=V2:=⟨_,rfl⟩;have HWR2:Hid (WrB V2 b base (s++baL (toB r.first :: ((hiL n k).take (k - k)).map toB))):=QLh (by rw[<-hV2,Nat.sub_self];exact HST.out.2.2.1);have HWK2:Hid (WK base b V V2):=QLh (by rw[<-hV2];exact HST.out.2.2.2)
    try rw[hV2]
    clear hV2 HST hc4 hf4 c5 hw1 HWR;have nbn:bn≠b:=λ e=>by have h1:=VN.out;rw[e,VV.out]at h1;cases h1
    have nbw:bw≠b:=λ e=>by have h1:=VW.out;rw[e,VV.out]at h1;cases h1
    have hbVS:base<=V.heap.size:=hbV;clear n1 n2 n3 n4 hbV hltb HQ
    go_loopg [5] k (λ g i wr=>g<=k/\i=.int .i64 ((g:Int) - 1)/\Hid (WrB wr b base (s++baL (toB r.first :: ((hiL n k).take (k - g)).map toB)))/\Hid (WK base b V wr))
    case atStart=>exact⟨Nat.le_refl _,rfl,HWR2.out,HWK2.out⟩
    case round=>
     clear HWR2 HWK2;obtain⟨hgk,rfl,HWR,HWK⟩:=hrel;obtain⟨G,hG⟩:∃G,G=gk:=⟨_,rfl⟩;subst hG
     cases G with
     | zero=>
      have e2:((0:Nat):Int) - 1=-1:=rfl;rw[e2];clear e2;go_wp2;go_ret;refine⟨Xv HX.out.symm,?_,(WK.of_below VB.out HBS.out).trans HWK.out⟩;rw[HIF.out];have e4:QfE r n=toB r.first :: ((hiL n k).take (k - 0)).map toB:=by unfold QfE;rw[if_neg HSZ.out,HKK.out,Nat.sub_zero,List.take_of_length_le (by rw[Vg];exact Nat.le_refl _)];rfl
      rw[e4];exact HWR.out
     | succ i=>
      have e2:((i+1:Nat):Int) - 1=(i:Int):=by omega
      rw[e2];obtain⟨t,ht⟩:∃t,s++baL (toB r.first :: ((hiL n k).take (k - (i+1))).map toB)=t:=⟨_,rfl⟩;have hts:t.size<=70000000000009:=by rw[<-ht,ByteArray.size_append,Vc,List.length_cons,List.length_map,List.length_take,Vg];omega
      obtain⟨x,hx⟩:∃x,n / 2 ^ (8 * i) % 256=x:=⟨_,rfl⟩;have hx0:0<=x/\x<=255:=by rw[<-hx];omega
      have HT:Hid (s++baL (toB r.first :: ((hiL n k).take (k - i)).map toB)=t++baL [toB x]):=QLh (by
       rw[<-ht,QnB n k i (by omega),show(256:Int) ^ i=2 ^ (8 * i)by rw[Int.pow_mul];rfl,hx,List.map_append,<-List.cons_append,QiI,ByteArray.append_assoc];rfl)
      rw[ht]at HWR;have y0:IntKind.u8.wrap (n / 2 ^ (8 * i))=x:=by rw[IntKind.wrap_u8];exact hx
      have y1:IntKind.i64.wrap (8 * (i:Int))=8 * (i:Int):=IntWalk.i64_in _ (by omega);have y2:0<=8 * (i:Int):=by omega
      have y3:(8 * (i:Int)).toNat=8 * i:=by omega
      clear ht e2 hx;obtain⟨-,v,hv,hown⟩:=HWR.out;have VV2:=QLh hv;have HOWN:=QLh hown;have VN2:=QLh (HWK.out.keep _ _ VN.out nbn n8n);have VW2:=QLh (HWK.out.keep _ _ VW.out nbw n8b);have n8w:QhG (.cells #[v] 233 (0,0)):=X6 (by decide);have HQ:Hid (∀g,v.ownBlock=some g->base<=g/\g<wr.heap.size):=QLh (λ g hg=>HOWN.out.lt g hg);have n1:=Z5 HOWN.out VN2.out n8n;have n2:=Z5 HOWN.out VW2.out n8b;have n4:=Z5 HOWN.out VV2.out n8w;have c1:wr.cell? ⟨bn,0,none⟩=some (.int .u64 n):=Qa VN2.out 0;have c2:wr.cell? ⟨bw,0,none⟩=some (.pointer (some ⟨b,0,none⟩)):=Qa VW2.out 0;have c4:wr.cell? ⟨b,0,none⟩=some v:=Qa VV2.out 0;have hbV:base<=wr.heap.size:=Nat.le_trans hbase (Nat.le_of_lt (lt_of_block VV2.out));clear hv hown;go_upto_region 10 with fail;refine Qp 14 11 (v.ownBlock) (Kx [λ u _=>u=(.pointer (some ⟨b,0,none⟩)),λ u _=>u=(.pointer (some ⟨b,0,none⟩)),λ u _=>u=(.pointer (some ⟨b,0,none⟩)),λ u _=>u=(.pointer (some ⟨b,0,none⟩)),λ u _=>u=(v),λ u _=>u=(.int .u64 n),λ u _=>u=(.int .i64 i),λ u _=>u=(.int .i64 (8 * (i:Int))),λ u _=>u=(.int .u64 (n / 2 ^ (8 * i))),λ u _=>u=(.int .u8 x),λ u w'=>∃b,u=.slice (some ⟨b,0,none⟩) 1 1/\some b≠v.ownBlock/\w'.heap[b]?=some (.cells ([.int .u8 x]).toArray 5 (0,0)),λ u w'=>w'.ownsRow (base) 5 1 u (t.size+1) (Lib.strCells t++[.int .u8 x]),λ u _=>u=(.pointer (some ⟨b,0,none⟩)),λ u _=>u=(.pointer (some ⟨b,0,none⟩))]) rfl (by kernel_rfl) (by kernel_rfl) (Q9 ⟨Qd,Qd,Qd,Qd,Qd,Qd,Qd,Qd,Qd,Qd,?m10,?m11,Qd,Qd,trivial⟩) (Q6 14 ⟨?s0,?s1,?s2,?s3,?s4,?s5,?s6,?s7,?s8,?s9,?s10,?s11,?s12,?s13,trivial⟩) ?_
      case m10=>exact⟨λ u w1 w' h ⟨b,h1,hb,hb'⟩=>⟨b,h1,hb,Zo h hb'⟩,λ _ u w1 w' h ⟨b,h1,hb,hb'⟩=>⟨b,h1,hb,Qw h hb hb'⟩⟩
      case m11=>exact⟨λ u w1 w' h hu=>Qs hu h,λ hn=>absurd rfl hn⟩
      case s0=>refine Qi (v:=(.pointer (some ⟨b,0,none⟩))) (λ av wv hE hS hO hD=>?_) (λ _=>rfl);have f2:=QEf av 2 (.pointer (some ⟨bw,0,none⟩)) (hO.2.2 2 rfl);have c1:=Qb hE n1 c1;have c2:=Qb hE n2 c2;have c4:=Qb hE n4 c4;refine⟨rfl,?_⟩;simp[go_sem,f2,c1,c2,c4,y0,y1,y2,y3]
      case s1=>refine Qi (v:=(.pointer (some ⟨b,0,none⟩))) (λ av wv hE hS hO hD=>?_) (λ _=>rfl);have f2:=QEf av 2 (.pointer (some ⟨bw,0,none⟩)) (hO.2.2 2 rfl);have c1:=Qb hE n1 c1;have c2:=Qb hE n2 c2;have c4:=Qb hE n4 c4;refine⟨rfl,?_⟩;simp[go_sem,f2,c1,c2,c4,y0,y1,y2,y3]
      case s2=>refine Qi (v:=(.pointer (some ⟨b,0,none⟩))) (λ av wv hE hS hO hD=>?_) (λ _=>rfl);have f51:=QEf av 51 (.pointer (some ⟨b,0,none⟩)) (hD.1 rfl _ rfl);refine⟨rfl,?_⟩;simp[go_sem,f51,y0,y1,y2,y3]
      case s3=>refine Qi (v:=(.pointer (some ⟨b,0,none⟩))) (λ av wv hE hS hO hD=>?_) (λ _=>rfl);have f52:=QEf av 52 (.pointer (some ⟨b,0,none⟩)) (hD.1 rfl _ rfl);refine⟨rfl,?_⟩;simp[go_sem,f52,y0,y1,y2,y3]
      case s4=>refine Qi (v:=(v)) (λ av wv hE hS hO hD=>?_) (λ _=>rfl);have f53:=QEf av 53 (.pointer (some ⟨b,0,none⟩)) (hD.1 rfl _ rfl);have c1:=Qb hE n1 c1;have c2:=Qb hE n2 c2;have c4:=Qb hE n4 c4;refine⟨rfl,?_⟩;simp[go_sem,f53,c1,c2,c4,y0,y1,y2,y3]
      case s5=>refine Qi (v:=(.int .u64 n)) (λ av wv hE hS hO hD=>?_) (λ _=>rfl);have f1:=QEf av 1 (.pointer (some ⟨bn,0,none⟩)) (hO.2.2 1 rfl);have c1:=Qb hE n1 c1;have c2:=Qb hE n2 c2;have c4:=Qb hE n4 c4;refine⟨rfl,?_⟩;simp[go_sem,f1,c1,c2,c4,y0,y1,y2,y3]
      case s6=>refine Qi (v:=(.int .i64 i)) (λ av wv hE hS hO hD=>?_) (λ _=>rfl);have f5:=QEf av 5 (.int .i64 i) (hO.2.2 5 rfl);refine⟨rfl,?_⟩;simp[go_sem,f5,y0,y1,y2,y3]
      case s7=>refine Qi (v:=(.int .i64 (8 * (i:Int)))) (λ av wv hE hS hO hD=>?_) (λ _=>rfl);have f56:=QEf av 56 (.int .i64 i) (hD.1 rfl _ rfl);refine⟨rfl,?_⟩;simp[go_sem,f56,y0,y1,y2,y3]
      case s8=>refine Qi (v:=(.int .u64 (n / 2 ^ (8 * i)))) (λ av wv hE hS hO hD=>?_) (λ _=>rfl);have f55:=QEf av 55 (.int .u64 n) (hD.1 rfl _ rfl);have f57:=QEf av 57 (.int .i64 (8 * (i:Int))) (hD.2.1 rfl _ rfl);refine⟨rfl,?_⟩;simp[go_sem,f55,f57,y0,y1,y2,y3]
      case s9=>refine Qi (v:=(.int .u8 x)) (λ av wv hE hS hO hD=>?_) (λ _=>rfl);have f58:=QEf av 58 (.int .u64 (n / 2 ^ (8 * i))) (hD.1 rfl _ rfl);refine⟨rfl,?_⟩;simp[go_sem,f58,y0,y1,y2,y3]
      case s10=>
       refine Qu (λ av wv hE hS hO hD=>?_);have f59:=QEf av 59 (.int .u8 x) (hD.1 rfl _ rfl);refine⟨rfl,?_⟩;refine Zn (v:=.slice (some ⟨wv.heap.size,0,none⟩) 1 1) (w':=wv.alloc (.cells ([.int .u8 x]).toArray 5)) (by first | (simp[go_sem,f59,y0,y1,y2,y3];done) | (simp[go_sem,f59,y0,y1,y2,y3];rfl)) ⟨_,rfl,Qo (Qf (Zj _) _),wv.heap.size,rfl,?_,heap_alloc_new _ _⟩
       exact λ e=>absurd (HQ.out _ e.symm).2 (by have:=hE.size;simp at this;omega)
      case s11=>refine Qu (λ av wv hE hS hO hD=>?_);have d54:av.eval (.tmp 54)=(v):=hD.1 rfl _ rfl;have f54:=(Xd av 54).symm.trans d54;have d60:(λ u w'=>∃b,u=.slice (some ⟨b,0,none⟩) 1 1/\some b≠v.ownBlock/\w'.heap[b]?=some (.cells ([.int .u8 x]).toArray 5 (0,0))) (av.eval (.tmp 60)) wv:=hD.2.1 rfl _ rfl;refine⟨rfl,?_⟩;obtain⟨bS,hS1,hbS,hcS⟩:=d60;have hown1:wv.ownsRow (base) 5 1 (v) (t.size) (Lib.strCells t):=Qs (w:=World.drew _) (HOWN.out) (hS rfl);refine wp_append_lies wv _ _ _ rfl (base) 5 i0 (.int .u8 0) 1 1 Tryz.underlying41 hi hz0 hz1 hz2 rfl (by decide) (v) (t.size) _ d54 hown1 ⟨bS,0,none⟩ 1 1 ([.int .u8 x]) (by exact hS1) rfl (World.news_of_block hcS) (QfR _) (by decide) (by unfold maxLen;omega) (by omega) (by have:=hE.size;simp at this;omega) _ rfl ?_;intro g cap1 w2 hown2 hgrow hat hlt2;exact⟨_,rfl,QcH hgrow,hown2⟩
      case s12=>refine Qi (v:=(.pointer (some ⟨b,0,none⟩))) (λ av wv hE hS hO hD=>?_) (λ _=>rfl);have f50:=QEf av 50 (.pointer (some ⟨b,0,none⟩)) (hD.1 rfl _ rfl);refine⟨rfl,?_⟩;simp[go_sem,f50,y0,y1,y2,y3]
      case s13=>refine Qi (v:=(.pointer (some ⟨b,0,none⟩))) (λ av wv hE hS hO hD=>?_) (λ _=>rfl);have f62:=QEf av 62 (.pointer (some ⟨b,0,none⟩)) (hD.1 rfl _ rfl);refine⟨rfl,?_⟩;simp[go_sem,f62,y0,y1,y2,y3]
      intro a' w' hE hO hall;have hA:=Qn (ds:=[50,51,52,53,54,55,56,57,58,59,60,61,62,63]) rfl hO (by kernel_rfl);have e50:a'.eval (.tmp 50)=(.pointer (some ⟨b,0,none⟩)):=hall.1 _ rfl;have e51:a'.eval (.tmp 51)=(.pointer (some ⟨b,0,none⟩)):=hall.2.1 _ rfl;have e52:a'.eval (.tmp 52)=(.pointer (some ⟨b,0,none⟩)):=hall.2.2.1 _ rfl;have e53:a'.eval (.tmp 53)=(.pointer (some ⟨b,0,none⟩)):=hall.2.2.2.1 _ rfl;have e54:a'.eval (.tmp 54)=(v):=hall.2.2.2.2.1 _ rfl;have e55:a'.eval (.tmp 55)=(.int .u64 n):=hall.2.2.2.2.2.1 _ rfl;have e56:a'.eval (.tmp 56)=(.int .i64 i):=hall.2.2.2.2.2.2.1 _ rfl;have e57:a'.eval (.tmp 57)=(.int .i64 (8 * (i:Int))):=hall.2.2.2.2.2.2.2.1 _ rfl;have e58:a'.eval (.tmp 58)=(.int .u64 (n / 2 ^ (8 * i))):=hall.2.2.2.2.2.2.2.2.1 _ rfl;have e59:a'.eval (.tmp 59)=(.int .u8 x):=hall.2.2.2.2.2.2.2.2.2.1 _ rfl;have e60:(λ u w'=>∃b,u=.slice (some ⟨b,0,none⟩) 1 1/\some b≠v.ownBlock/\w'.heap[b]?=some (.cells ([.int .u8 x]).toArray 5 (0,0))) (a'.eval (.tmp 60)) w':=hall.2.2.2.2.2.2.2.2.2.2.1 _ rfl;have e61:(λ u w'=>w'.ownsRow (base) 5 1 u (t.size+1) (Lib.strCells t++[.int .u8 x])) (a'.eval (.tmp 61)) w':=hall.2.2.2.2.2.2.2.2.2.2.2.1 _ rfl;have e62:a'.eval (.tmp 62)=(.pointer (some ⟨b,0,none⟩)):=hall.2.2.2.2.2.2.2.2.2.2.2.2.1 _ rfl;have e63:a'.eval (.tmp 63)=(.pointer (some ⟨b,0,none⟩)):=hall.2.2.2.2.2.2.2.2.2.2.2.2.2.1 _ rfl;obtain⟨v60,hv60⟩:∃v,a'.eval (.tmp 60)=v:=⟨_,rfl⟩;rw[hv60]at e60;obtain⟨v61,hv61⟩:∃v,a'.eval (.tmp 61)=v:=⟨_,rfl⟩;rw[hv61]at e61;simp only[List.foldl_cons,List.foldl_nil,Act.put,List.setIfInBounds_toArray,List.set_cons_succ,List.set_cons_zero,e50,e51,e52,e53,e54,e55,e56,e57,e58,e59,hv60,hv61,e62,e63]at hA;clear hO hall e50 e51 e52 e53 e54 e55 e56 e57 e58 e59 hv60 hv61 e62 e63;subst hA;obtain⟨ga,gc,rfl⟩:=Uo e61;have hst:=QbO (s':=t++baL [toB x]) hbase VV2.out HOWN.out hE (by rw[Qdf];exact e61) (by rw[J9,Yv hx0.1 hx0.2]);have HST:=QLh hst;have hc4:=hst.1;have hf4:=hst.2.1;clear hst hE e61 c1 c2 c4 n1 n2 n4;go_wp2
      go_roundg i
      case rel=>exact⟨by omega,by go_num,by rw[HT.out];exact HST.out.2.2.1,HWK.out.trans HST.out.2.2.2⟩
      case measure=>omega
  ·skip
   go_enter Tryz.func291,Tryz.ntmps291
   by_cases hsz:r.size=0
   ·have e0:(r.size == 0)=true:=by simpa using hsz
    have HSZ:=QLh hsz;clear hsz;go_upto_region 4 with fail;obtain⟨br,hbr⟩:∃br,w.heap.size=br:=⟨_,rfl⟩;obtain⟨V,hV⟩:∃V,w.alloc (.cells #[.int .u64 r.below,.int .u8 r.first,.int .i64 r.size] 336)=V:=⟨_,rfl⟩;have VB:Hid (Below w.heap.size w V):=QLh (by rw[<-hV];exact Qf (Below.refl _ _) _);have VR:Hid (V.heap[br]?=some (.cells #[.int .u64 r.below,.int .u8 r.first,.int .i64 r.size] 336 (0,0))):=QLh (by rw[<-hV,<-hbr];exact heap_alloc_new _ _);have VN:Hid (V.heap[bn]?=some (.cells #[.int .u64 n] 23 (0,0))):=QLh ((VB.out.block _ (lt_of_block HN.out)).trans HN.out);have VW:Hid (V.heap[bw]?=some (.cells #[.pointer (some ⟨b,0,none⟩)] 177 (0,0))):=QLh ((VB.out.block _ (lt_of_block HW2.out)).trans HW2.out);have VV:Hid (V.heap[b]?=some (.cells #[v] 233 (0,0))):=QLh ((VB.out.block _ hltb).trans HV.out);have HOWN:=QLh (Qs HOWN0.out VB.out);have HQ:Hid (∀g,v.ownBlock=some g->base<=g/\g<V.heap.size):=QLh (λ g hg=>HOWN.out.lt g hg);have n1:=Z5 HOWN.out VN.out n8n;have n2:=Z5 HOWN.out VW.out n8b;have n3:=Z5 HOWN.out VR.out n8r;have n4:=Z5 HOWN.out VV.out n8w;have c1:V.cell? ⟨bn,0,none⟩=some (.int .u64 n):=Qa VN.out 0;have c2:V.cell? ⟨bw,0,none⟩=some (.pointer (some ⟨b,0,none⟩)):=Qa VW.out 0;have c3:V.cell? ⟨br,1,none⟩=some (.int .u8 r.first):=Qa VR.out 1;have c4:V.cell? ⟨b,0,none⟩=some v:=Qa VV.out 0;have hbV:base<=V.heap.size:=Nat.le_trans hbase (Nat.le_of_lt (lt_of_block VV.out));obtain⟨y,hy⟩:∃y,r.first+n=y:=⟨_,rfl⟩;have hy1:y<=255:=by rw[<-hy];exact HFIT.out HSZ.out
    have y0:IntKind.u8.wrap n=n:=IntWalk.u8_in _ (by omega);have y1:IntKind.u8.wrap (r.first+n)=y:=by rw[hy];exact IntWalk.u8_in _ (by omega)
    have hy0:0<=y:=by omega
    have HY:=QLh hy;rw[hbr]
    try rw[hV]
    clear hV hbr hy cn cw cb;refine Qp 14 11 (v.ownBlock) (Kx [λ u _=>u=(.pointer (some ⟨b,0,none⟩)),λ u _=>u=(.pointer (some ⟨b,0,none⟩)),λ u _=>u=(.pointer (some ⟨b,0,none⟩)),λ u _=>u=(.pointer (some ⟨b,0,none⟩)),λ u _=>u=(v),λ u _=>u=(.pointer (some ⟨br,1,none⟩)),λ u _=>u=(.int .u8 r.first),λ u _=>u=(.int .u64 n),λ u _=>u=(.int .u8 n),λ u _=>u=(.int .u8 y),λ u w'=>∃b,u=.slice (some ⟨b,0,none⟩) 1 1/\some b≠v.ownBlock/\w'.heap[b]?=some (.cells ([.int .u8 y]).toArray 5 (0,0)),λ u w'=>w'.ownsRow (base) 5 1 u (s.size+1) (Lib.strCells s++[.int .u8 y]),λ u _=>u=(.pointer (some ⟨b,0,none⟩)),λ u _=>u=(.pointer (some ⟨b,0,none⟩))]) rfl (by kernel_rfl) (by kernel_rfl) (Q9 ⟨Qd,Qd,Qd,Qd,Qd,Qd,Qd,Qd,Qd,Qd,?m10,?m11,Qd,Qd,trivial⟩) (Q6 14 ⟨?s0,?s1,?s2,?s3,?s4,?s5,?s6,?s7,?s8,?s9,?s10,?s11,?s12,?s13,trivial⟩) ?_
    case m10=>exact⟨λ u w1 w' h ⟨b,h1,hb,hb'⟩=>⟨b,h1,hb,Zo h hb'⟩,λ _ u w1 w' h ⟨b,h1,hb,hb'⟩=>⟨b,h1,hb,Qw h hb hb'⟩⟩
    case m11=>exact⟨λ u w1 w' h hu=>Qs hu h,λ hn=>absurd rfl hn⟩
    case s0=>refine Qi (v:=(.pointer (some ⟨b,0,none⟩))) (λ av wv hE hS hO hD=>?_) (λ _=>rfl);have f2:=QEf av 2 (.pointer (some ⟨bw,0,none⟩)) (hO.2.2 2 rfl);have c1:=Qb hE n1 c1;have c2:=Qb hE n2 c2;have c3:=Qb hE n3 c3;have c4:=Qb hE n4 c4;refine⟨rfl,?_⟩;simp[go_sem,f2,c1,c2,c3,c4,y0,y1]
    case s1=>refine Qi (v:=(.pointer (some ⟨b,0,none⟩))) (λ av wv hE hS hO hD=>?_) (λ _=>rfl);have f2:=QEf av 2 (.pointer (some ⟨bw,0,none⟩)) (hO.2.2 2 rfl);have c1:=Qb hE n1 c1;have c2:=Qb hE n2 c2;have c3:=Qb hE n3 c3;have c4:=Qb hE n4 c4;refine⟨rfl,?_⟩;simp[go_sem,f2,c1,c2,c3,c4,y0,y1]
    case s2=>refine Qi (v:=(.pointer (some ⟨b,0,none⟩))) (λ av wv hE hS hO hD=>?_) (λ _=>rfl);have f19:=QEf av 19 (.pointer (some ⟨b,0,none⟩)) (hD.1 rfl _ rfl);refine⟨rfl,?_⟩;simp[go_sem,f19,y0,y1]
    case s3=>refine Qi (v:=(.pointer (some ⟨b,0,none⟩))) (λ av wv hE hS hO hD=>?_) (λ _=>rfl);have f20:=QEf av 20 (.pointer (some ⟨b,0,none⟩)) (hD.1 rfl _ rfl);refine⟨rfl,?_⟩;simp[go_sem,f20,y0,y1]
    case s4=>refine Qi (v:=(v)) (λ av wv hE hS hO hD=>?_) (λ _=>rfl);have f21:=QEf av 21 (.pointer (some ⟨b,0,none⟩)) (hD.1 rfl _ rfl);have c1:=Qb hE n1 c1;have c2:=Qb hE n2 c2;have c3:=Qb hE n3 c3;have c4:=Qb hE n4 c4;refine⟨rfl,?_⟩;simp[go_sem,f21,c1,c2,c3,c4,y0,y1]
    case s5=>refine Qi (v:=(.pointer (some ⟨br,1,none⟩))) (λ av wv hE hS hO hD=>?_) (λ _=>rfl);have f3:=QEf av 3 (.pointer (some ⟨br,0,none⟩)) (hO.2.2 3 rfl);refine⟨rfl,?_⟩;simp[go_sem,f3,y0,y1]
    case s6=>refine Qi (v:=(.int .u8 r.first)) (λ av wv hE hS hO hD=>?_) (λ _=>rfl);have f23:=QEf av 23 (.pointer (some ⟨br,1,none⟩)) (hD.1 rfl _ rfl);have c1:=Qb hE n1 c1;have c2:=Qb hE n2 c2;have c3:=Qb hE n3 c3;have c4:=Qb hE n4 c4;refine⟨rfl,?_⟩;simp[go_sem,f23,c1,c2,c3,c4,y0,y1]
    case s7=>refine Qi (v:=(.int .u64 n)) (λ av wv hE hS hO hD=>?_) (λ _=>rfl);have f1:=QEf av 1 (.pointer (some ⟨bn,0,none⟩)) (hO.2.2 1 rfl);have c1:=Qb hE n1 c1;have c2:=Qb hE n2 c2;have c3:=Qb hE n3 c3;have c4:=Qb hE n4 c4;refine⟨rfl,?_⟩;simp[go_sem,f1,c1,c2,c3,c4,y0,y1]
    case s8=>refine Qi (v:=(.int .u8 n)) (λ av wv hE hS hO hD=>?_) (λ _=>rfl);have f25:=QEf av 25 (.int .u64 n) (hD.1 rfl _ rfl);refine⟨rfl,?_⟩;simp[go_sem,f25,y0,y1]
    case s9=>refine Qi (v:=(.int .u8 y)) (λ av wv hE hS hO hD=>?_) (λ _=>rfl);have f24:=QEf av 24 (.int .u8 r.first) (hD.1 rfl _ rfl);have f26:=QEf av 26 (.int .u8 n) (hD.2.1 rfl _ rfl);refine⟨rfl,?_⟩;simp[go_sem,f24,f26,y0,y1]
    case s10=>
     refine Qu (λ av wv hE hS hO hD=>?_);have f27:=QEf av 27 (.int .u8 y) (hD.1 rfl _ rfl);refine⟨rfl,?_⟩;refine Zn (v:=.slice (some ⟨wv.heap.size,0,none⟩) 1 1) (w':=wv.alloc (.cells ([.int .u8 y]).toArray 5)) (by first | (simp[go_sem,f27,y0,y1];done) | (simp[go_sem,f27,y0,y1];rfl)) ⟨_,rfl,Qo (Qf (Zj _) _),wv.heap.size,rfl,?_,heap_alloc_new _ _⟩
     exact λ e=>absurd (HQ.out _ e.symm).2 (by have:=hE.size;simp at this;omega)
    case s11=>refine Qu (λ av wv hE hS hO hD=>?_);have d22:av.eval (.tmp 22)=(v):=hD.1 rfl _ rfl;have f22:=(Xd av 22).symm.trans d22;have d28:(λ u w'=>∃b,u=.slice (some ⟨b,0,none⟩) 1 1/\some b≠v.ownBlock/\w'.heap[b]?=some (.cells ([.int .u8 y]).toArray 5 (0,0))) (av.eval (.tmp 28)) wv:=hD.2.1 rfl _ rfl;refine⟨rfl,?_⟩;obtain⟨bS,hS1,hbS,hcS⟩:=d28;have hown1:wv.ownsRow (base) 5 1 (v) (s.size) (Lib.strCells s):=Qs (w:=World.drew _) (HOWN.out) (hS rfl);refine wp_append_lies wv _ _ _ rfl (base) 5 i0 (.int .u8 0) 1 1 Tryz.underlying41 hi hz0 hz1 hz2 rfl (by decide) (v) (s.size) _ d22 hown1 ⟨bS,0,none⟩ 1 1 ([.int .u8 y]) (by exact hS1) rfl (World.news_of_block hcS) (QfR _) (by decide) (by unfold maxLen;omega) (by omega) (by have:=hE.size;simp at this;omega) _ rfl ?_;intro g cap1 w2 hown2 hgrow hat hlt2;exact⟨_,rfl,QcH hgrow,hown2⟩
    case s12=>refine Qi (v:=(.pointer (some ⟨b,0,none⟩))) (λ av wv hE hS hO hD=>?_) (λ _=>rfl);have f18:=QEf av 18 (.pointer (some ⟨b,0,none⟩)) (hD.1 rfl _ rfl);refine⟨rfl,?_⟩;simp[go_sem,f18,y0,y1]
    case s13=>refine Qi (v:=(.pointer (some ⟨b,0,none⟩))) (λ av wv hE hS hO hD=>?_) (λ _=>rfl);have f30:=QEf av 30 (.pointer (some ⟨b,0,none⟩)) (hD.1 rfl _ rfl);refine⟨rfl,?_⟩;simp[go_sem,f30,y0,y1]
    intro a' w' hE hO hall;have hA:=Qn (ds:=[18,19,20,21,22,23,24,25,26,27,28,29,30,31]) rfl hO (by kernel_rfl);have e18:a'.eval (.tmp 18)=(.pointer (some ⟨b,0,none⟩)):=hall.1 _ rfl;have e19:a'.eval (.tmp 19)=(.pointer (some ⟨b,0,none⟩)):=hall.2.1 _ rfl;have e20:a'.eval (.tmp 20)=(.pointer (some ⟨b,0,none⟩)):=hall.2.2.1 _ rfl;have e21:a'.eval (.tmp 21)=(.pointer (some ⟨b,0,none⟩)):=hall.2.2.2.1 _ rfl;have e22:a'.eval (.tmp 22)=(v):=hall.2.2.2.2.1 _ rfl;have e23:a'.eval (.tmp 23)=(.pointer (some ⟨br,1,none⟩)):=hall.2.2.2.2.2.1 _ rfl;have e24:a'.eval (.tmp 24)=(.int .u8 r.first):=hall.2.2.2.2.2.2.1 _ rfl;have e25:a'.eval (.tmp 25)=(.int .u64 n):=hall.2.2.2.2.2.2.2.1 _ rfl;have e26:a'.eval (.tmp 26)=(.int .u8 n):=hall.2.2.2.2.2.2.2.2.1 _ rfl;have e27:a'.eval (.tmp 27)=(.int .u8 y):=hall.2.2.2.2.2.2.2.2.2.1 _ rfl;have e28:(λ u w'=>∃b,u=.slice (some ⟨b,0,none⟩) 1 1/\some b≠v.ownBlock/\w'.heap[b]?=some (.cells ([.int .u8 y]).toArray 5 (0,0))) (a'.eval (.tmp 28)) w':=hall.2.2.2.2.2.2.2.2.2.2.1 _ rfl;have e29:(λ u w'=>w'.ownsRow (base) 5 1 u (s.size+1) (Lib.strCells s++[.int .u8 y])) (a'.eval (.tmp 29)) w':=hall.2.2.2.2.2.2.2.2.2.2.2.1 _ rfl;have e30:a'.eval (.tmp 30)=(.pointer (some ⟨b,0,none⟩)):=hall.2.2.2.2.2.2.2.2.2.2.2.2.1 _ rfl;have e31:a'.eval (.tmp 31)=(.pointer (some ⟨b,0,none⟩)):=hall.2.2.2.2.2.2.2.2.2.2.2.2.2.1 _ rfl;obtain⟨v28,hv28⟩:∃v,a'.eval (.tmp 28)=v:=⟨_,rfl⟩;rw[hv28]at e28;obtain⟨v29,hv29⟩:∃v,a'.eval (.tmp 29)=v:=⟨_,rfl⟩;rw[hv29]at e29;simp only[List.foldl_cons,List.foldl_nil,Act.put,List.setIfInBounds_toArray,List.set_cons_succ,List.set_cons_zero,e18,e19,e20,e21,e22,e23,e24,e25,e26,e27,hv28,hv29,e30,e31]at hA;clear hO hall e18 e19 e20 e21 e22 e23 e24 e25 e26 e27 hv28 hv29 e30 e31;subst hA;obtain⟨ga,gc,rfl⟩:=Uo e29;have hst:=QbO (s':=s++baL [toB y]) hbase VV.out HOWN.out hE (by rw[Qdf];exact e29) (by rw[J9,Yv hy0 hy1]);have HST:=QLh hst;have hc4:=hst.1;have hf4:=hst.2.1;clear hst hE e29;go_wp2;go_ret;refine⟨Xv HX.out.symm,?_,(WK.of_below VB.out HBS.out).trans HST.out.2.2.2⟩;rw[HIF.out];have e4:QfE r n=[toB y]:=by unfold QfE;rw[if_pos HSZ.out,HY.out]
    rw[e4];exact HST.out.2.2.1
   ·have e0:(r.size == 0)=false:=by simpa using hsz
    have HSZ:=QLh hsz;clear hsz;go_upto_region 6 with fail;obtain⟨br,hbr⟩:∃br,w.heap.size=br:=⟨_,rfl⟩;obtain⟨V,hV⟩:∃V,w.alloc (.cells #[.int .u64 r.below,.int .u8 r.first,.int .i64 r.size] 336)=V:=⟨_,rfl⟩;have VB:Hid (Below w.heap.size w V):=QLh (by rw[<-hV];exact Qf (Below.refl _ _) _);have VR:Hid (V.heap[br]?=some (.cells #[.int .u64 r.below,.int .u8 r.first,.int .i64 r.size] 336 (0,0))):=QLh (by rw[<-hV,<-hbr];exact heap_alloc_new _ _);have VN:Hid (V.heap[bn]?=some (.cells #[.int .u64 n] 23 (0,0))):=QLh ((VB.out.block _ (lt_of_block HN.out)).trans HN.out);have VW:Hid (V.heap[bw]?=some (.cells #[.pointer (some ⟨b,0,none⟩)] 177 (0,0))):=QLh ((VB.out.block _ (lt_of_block HW2.out)).trans HW2.out);have VV:Hid (V.heap[b]?=some (.cells #[v] 233 (0,0))):=QLh ((VB.out.block _ hltb).trans HV.out);have HOWN:=QLh (Qs HOWN0.out VB.out);have HQ:Hid (∀g,v.ownBlock=some g->base<=g/\g<V.heap.size):=QLh (λ g hg=>HOWN.out.lt g hg);have n1:=Z5 HOWN.out VN.out n8n;have n2:=Z5 HOWN.out VW.out n8b;have n3:=Z5 HOWN.out VR.out n8r;have n4:=Z5 HOWN.out VV.out n8w;have c1:V.cell? ⟨bn,0,none⟩=some (.int .u64 n):=Qa VN.out 0;have c2:V.cell? ⟨bw,0,none⟩=some (.pointer (some ⟨b,0,none⟩)):=Qa VW.out 0;have c3:V.cell? ⟨br,1,none⟩=some (.int .u8 r.first):=Qa VR.out 1;have c4:V.cell? ⟨b,0,none⟩=some v:=Qa VV.out 0;have hbV:base<=V.heap.size:=Nat.le_trans hbase (Nat.le_of_lt (lt_of_block VV.out));rw[hbr]
    try rw[hV]
    clear hV hbr cn cw cb;refine Qp 11 8 (v.ownBlock) (Kx [λ u _=>u=(.pointer (some ⟨b,0,none⟩)),λ u _=>u=(.pointer (some ⟨b,0,none⟩)),λ u _=>u=(.pointer (some ⟨b,0,none⟩)),λ u _=>u=(.pointer (some ⟨b,0,none⟩)),λ u _=>u=(v),λ u _=>u=(.pointer (some ⟨br,1,none⟩)),λ u _=>u=(.int .u8 r.first),λ u w'=>∃b,u=.slice (some ⟨b,0,none⟩) 1 1/\some b≠v.ownBlock/\w'.heap[b]?=some (.cells ([.int .u8 r.first]).toArray 5 (0,0)),λ u w'=>w'.ownsRow (base) 5 1 u (s.size+1) (Lib.strCells s++[.int .u8 r.first]),λ u _=>u=(.pointer (some ⟨b,0,none⟩)),λ u _=>u=(.pointer (some ⟨b,0,none⟩))]) rfl (by kernel_rfl) (by kernel_rfl) (Q9 ⟨Qd,Qd,Qd,Qd,Qd,Qd,Qd,?m7,?m8,Qd,Qd,trivial⟩) (Q6 11 ⟨?s0,?s1,?s2,?s3,?s4,?s5,?s6,?s7,?s8,?s9,?s10,trivial⟩) ?_
    case m7=>exact⟨λ u w1 w' h ⟨b,h1,hb,hb'⟩=>⟨b,h1,hb,Zo h hb'⟩,λ _ u w1 w' h ⟨b,h1,hb,hb'⟩=>⟨b,h1,hb,Qw h hb hb'⟩⟩
    case m8=>exact⟨λ u w1 w' h hu=>Qs hu h,λ hn=>absurd rfl hn⟩
    case s0=>refine Qi (v:=(.pointer (some ⟨b,0,none⟩))) (λ av wv hE hS hO hD=>?_) (λ _=>rfl);have f2:=QEf av 2 (.pointer (some ⟨bw,0,none⟩)) (hO.2.2 2 rfl);have c1:=Qb hE n1 c1;have c2:=Qb hE n2 c2;have c3:=Qb hE n3 c3;have c4:=Qb hE n4 c4;refine⟨rfl,?_⟩;simp[go_sem,f2,c1,c2,c3,c4]
    case s1=>refine Qi (v:=(.pointer (some ⟨b,0,none⟩))) (λ av wv hE hS hO hD=>?_) (λ _=>rfl);have f2:=QEf av 2 (.pointer (some ⟨bw,0,none⟩)) (hO.2.2 2 rfl);have c1:=Qb hE n1 c1;have c2:=Qb hE n2 c2;have c3:=Qb hE n3 c3;have c4:=Qb hE n4 c4;refine⟨rfl,?_⟩;simp[go_sem,f2,c1,c2,c3,c4]
    case s2=>refine Qi (v:=(.pointer (some ⟨b,0,none⟩))) (λ av wv hE hS hO hD=>?_) (λ _=>rfl);have f33:=QEf av 33 (.pointer (some ⟨b,0,none⟩)) (hD.1 rfl _ rfl);refine⟨rfl,?_⟩;simp[go_sem,f33]
    case s3=>refine Qi (v:=(.pointer (some ⟨b,0,none⟩))) (λ av wv hE hS hO hD=>?_) (λ _=>rfl);have f34:=QEf av 34 (.pointer (some ⟨b,0,none⟩)) (hD.1 rfl _ rfl);refine⟨rfl,?_⟩;simp[go_sem,f34]
    case s4=>refine Qi (v:=(v)) (λ av wv hE hS hO hD=>?_) (λ _=>rfl);have f35:=QEf av 35 (.pointer (some ⟨b,0,none⟩)) (hD.1 rfl _ rfl);have c1:=Qb hE n1 c1;have c2:=Qb hE n2 c2;have c3:=Qb hE n3 c3;have c4:=Qb hE n4 c4;refine⟨rfl,?_⟩;simp[go_sem,f35,c1,c2,c3,c4]
    case s5=>refine Qi (v:=(.pointer (some ⟨br,1,none⟩))) (λ av wv hE hS hO hD=>?_) (λ _=>rfl);have f3:=QEf av 3 (.pointer (some ⟨br,0,none⟩)) (hO.2.2 3 rfl);refine⟨rfl,?_⟩;simp[go_sem,f3]
    case s6=>refine Qi (v:=(.int .u8 r.first)) (λ av wv hE hS hO hD=>?_) (λ _=>rfl);have f37:=QEf av 37 (.pointer (some ⟨br,1,none⟩)) (hD.1 rfl _ rfl);have c1:=Qb hE n1 c1;have c2:=Qb hE n2 c2;have c3:=Qb hE n3 c3;have c4:=Qb hE n4 c4;refine⟨rfl,?_⟩;simp[go_sem,f37,c1,c2,c3,c4]
    case s7=>
     refine Qu (λ av wv hE hS hO hD=>?_);have f38:=QEf av 38 (.int .u8 r.first) (hD.1 rfl _ rfl);refine⟨rfl,?_⟩;refine Zn (v:=.slice (some ⟨wv.heap.size,0,none⟩) 1 1) (w':=wv.alloc (.cells ([.int .u8 r.first]).toArray 5)) (by first | (simp[go_sem,f38];done) | (simp[go_sem,f38];rfl)) ⟨_,rfl,Qo (Qf (Zj _) _),wv.heap.size,rfl,?_,heap_alloc_new _ _⟩
     exact λ e=>absurd (HQ.out _ e.symm).2 (by have:=hE.size;simp at this;omega)
    case s8=>refine Qu (λ av wv hE hS hO hD=>?_);have d36:av.eval (.tmp 36)=(v):=hD.1 rfl _ rfl;have f36:=(Xd av 36).symm.trans d36;have d39:(λ u w'=>∃b,u=.slice (some ⟨b,0,none⟩) 1 1/\some b≠v.ownBlock/\w'.heap[b]?=some (.cells ([.int .u8 r.first]).toArray 5 (0,0))) (av.eval (.tmp 39)) wv:=hD.2.1 rfl _ rfl;refine⟨rfl,?_⟩;obtain⟨bS,hS1,hbS,hcS⟩:=d39;have hown1:wv.ownsRow (base) 5 1 (v) (s.size) (Lib.strCells s):=Qs (w:=World.drew _) (HOWN.out) (hS rfl);refine wp_append_lies wv _ _ _ rfl (base) 5 i0 (.int .u8 0) 1 1 Tryz.underlying41 hi hz0 hz1 hz2 rfl (by decide) (v) (s.size) _ d36 hown1 ⟨bS,0,none⟩ 1 1 ([.int .u8 r.first]) (by exact hS1) rfl (World.news_of_block hcS) (QfR _) (by decide) (by unfold maxLen;omega) (by omega) (by have:=hE.size;simp at this;omega) _ rfl ?_;intro g cap1 w2 hown2 hgrow hat hlt2;exact⟨_,rfl,QcH hgrow,hown2⟩
    case s9=>refine Qi (v:=(.pointer (some ⟨b,0,none⟩))) (λ av wv hE hS hO hD=>?_) (λ _=>rfl);have f32:=QEf av 32 (.pointer (some ⟨b,0,none⟩)) (hD.1 rfl _ rfl);refine⟨rfl,?_⟩;simp[go_sem,f32]
    case s10=>refine Qi (v:=(.pointer (some ⟨b,0,none⟩))) (λ av wv hE hS hO hD=>?_) (λ _=>rfl);have f41:=QEf av 41 (.pointer (some ⟨b,0,none⟩)) (hD.1 rfl _ rfl);refine⟨rfl,?_⟩;simp[go_sem,f41]
    intro a' w' hE hO hall;have hA:=Qn (ds:=[32,33,34,35,36,37,38,39,40,41,42]) rfl hO (by kernel_rfl);have e32:a'.eval (.tmp 32)=(.pointer (some ⟨b,0,none⟩)):=hall.1 _ rfl;have e33:a'.eval (.tmp 33)=(.pointer (some ⟨b,0,none⟩)):=hall.2.1 _ rfl;have e34:a'.eval (.tmp 34)=(.pointer (some ⟨b,0,none⟩)):=hall.2.2.1 _ rfl;have e35:a'.eval (.tmp 35)=(.pointer (some ⟨b,0,none⟩)):=hall.2.2.2.1 _ rfl;have e36:a'.eval (.tmp 36)=(v):=hall.2.2.2.2.1 _ rfl;have e37:a'.eval (.tmp 37)=(.pointer (some ⟨br,1,none⟩)):=hall.2.2.2.2.2.1 _ rfl;have e38:a'.eval (.tmp 38)=(.int .u8 r.first):=hall.2.2.2.2.2.2.1 _ rfl;have e39:(λ u w'=>∃b,u=.slice (some ⟨b,0,none⟩) 1 1/\some b≠v.ownBlock/\w'.heap[b]?=some (.cells ([.int .u8 r.first]).toArray 5 (0,0))) (a'.eval (.tmp 39)) w':=hall.2.2.2.2.2.2.2.1 _ rfl;have e40:(λ u w'=>w'.ownsRow (base) 5 1 u (s.size+1) (Lib.strCells s++[.int .u8 r.first])) (a'.eval (.tmp 40)) w':=hall.2.2.2.2.2.2.2.2.1 _ rfl;have e41:a'.eval (.tmp 41)=(.pointer (some ⟨b,0,none⟩)):=hall.2.2.2.2.2.2.2.2.2.1 _ rfl;have e42:a'.eval (.tmp 42)=(.pointer (some ⟨b,0,none⟩)):=hall.2.2.2.2.2.2.2.2.2.2.1 _ rfl;obtain⟨v39,hv39⟩:∃v,a'.eval (.tmp 39)=v:=⟨_,rfl⟩;rw[hv39]at e39;obtain⟨v40,hv40⟩:∃v,a'.eval (.tmp 40)=v:=⟨_,rfl⟩;rw[hv40]at e40;simp only[List.foldl_cons,List.foldl_nil,Act.put,List.setIfInBounds_toArray,List.set_cons_succ,List.set_cons_zero,e32,e33,e34,e35,e36,e37,e38,hv39,hv40,e41,e42]at hA;clear hO hall e32 e33 e34 e35 e36 e37 e38 hv39 hv40 e41 e42;subst hA;obtain⟨ga,gc,rfl⟩:=Uo e40;have hst:=QbO (s':=s++baL [toB r.first]) hbase VV.out HOWN.out hE (by rw[Qdf];exact e40) (by rw[J9,Yv f0 f1]);have HST:=QLh hst;have hc4:=hst.1;have hf4:=hst.2.1;have HBR:Hid (w'.cell? ⟨br,2,none⟩=some (.int .i64 r.size)):=QLh (Qb hE n3 (Qa VR.out 2));clear hst hE e40 c1 c2 c3 c4;have hne:br≠b:=λ e=>by have h1:=VR.out;rw[e,VV.out]at h1;cases h1
    have c5:(w'.setCell ⟨b,0,none⟩ (.slice (some ⟨ga,0,none⟩) (s.size+1) gc)).cell? ⟨br,2,none⟩=some (.int .i64 r.size):=by have h:=(HST.out.2.2.2).keep br _ VR.out hne n8r;exact Qa h 2
    obtain⟨k,hk⟩:=Int.eq_ofNat_of_zero_le s0;have HKK:=QLh hk;have k8:k<=8:=by omega
    rw[hk]at c5;have hw1:IntKind.i64.wrap ((k:Int) - 1)=(k:Int) - 1:=IntWalk.i64_in _ (by omega);clear hk HBR;go_wp2;obtain⟨V2,hV2⟩:∃V2,w'.setCell ⟨b,0,none⟩ (.slice (some ⟨ga,0,none⟩) (s.size+1) gc)=V2:=⟨_,rfl⟩;have HWR2:Hid (WrB V2 b base (s++baL (toB r.first :: ((hiL n k).take (k - k)).map toB))):=QLh (by rw[<-hV2,Nat.sub_self];exact HST.out.2.2.1);have HWK2:Hid (WK base b V V2):=QLh (by rw[<-hV2];exact HST.out.2.2.2)
    try rw[hV2]
    clear hV2 HST hc4 hf4 c5 hw1 HWR;have nbn:bn≠b:=λ e=>by have h1:=VN.out;rw[e,VV.out]at h1;cases h1
    have nbw:bw≠b:=λ e=>by have h1:=VW.out;rw[e,VV.out]at h1;cases h1
    have hbVS:base<=V.heap.size:=hbV;clear n1 n2 n3 n4 hbV hltb HQ
    go_loopg [5] k (λ g i wr=>g<=k/\i=.int .i64 ((g:Int) - 1)/\Hid (WrB wr b base (s++baL (toB r.first :: ((hiL n k).take (k - g)).map toB)))/\Hid (WK base b V wr))
    case atStart=>exact⟨Nat.le_refl _,rfl,HWR2.out,HWK2.out⟩
    case round=>
     clear HWR2 HWK2;obtain⟨hgk,rfl,HWR,HWK⟩:=hrel;obtain⟨G,hG⟩:∃G,G=gk:=⟨_,rfl⟩;subst hG
     cases G with
     | zero=>
      have e2:((0:Nat):Int) - 1=-1:=rfl;rw[e2];clear e2;go_wp2;go_ret;refine⟨Xv HX.out.symm,?_,(WK.of_below VB.out HBS.out).trans HWK.out⟩;rw[HIF.out];have e4:QfE r n=toB r.first :: ((hiL n k).take (k - 0)).map toB:=by unfold QfE;rw[if_neg HSZ.out,HKK.out,Nat.sub_zero,List.take_of_length_le (by rw[Vg];exact Nat.le_refl _)];rfl
      rw[e4];exact HWR.out
     | succ i=>
      have e2:((i+1:Nat):Int) - 1=(i:Int):=by omega
      rw[e2];obtain⟨t,ht⟩:∃t,s++baL (toB r.first :: ((hiL n k).take (k - (i+1))).map toB)=t:=⟨_,rfl⟩;have hts:t.size<=70000000000009:=by rw[<-ht,ByteArray.size_append,Vc,List.length_cons,List.length_map,List.length_take,Vg];omega
      obtain⟨x,hx⟩:∃x,n / 2 ^ (8 * i) % 256=x:=⟨_,rfl⟩;have hx0:0<=x/\x<=255:=by rw[<-hx];omega
      have HT:Hid (s++baL (toB r.first :: ((hiL n k).take (k - i)).map toB)=t++baL [toB x]):=QLh (by
       rw[<-ht,QnB n k i (by omega),show(256:Int) ^ i=2 ^ (8 * i)by rw[Int.pow_mul];rfl,hx,List.map_append,<-List.cons_append,QiI,ByteArray.append_assoc];rfl)
      rw[ht]at HWR;have y0:IntKind.u8.wrap (n / 2 ^ (8 * i))=x:=by rw[IntKind.wrap_u8];exact hx
      have y1:IntKind.i64.wrap (8 * (i:Int))=8 * (i:Int):=IntWalk.i64_in _ (by omega);have y2:0<=8 * (i:Int):=by omega
      have y3:(8 * (i:Int)).toNat=8 * i:=by omega
      clear ht e2 hx;obtain⟨-,v,hv,hown⟩:=HWR.out;have VV2:=QLh hv;have HOWN:=QLh hown;have VN2:=QLh (HWK.out.keep _ _ VN.out nbn n8n);have VW2:=QLh (HWK.out.keep _ _ VW.out nbw n8b);have n8w:QhG (.cells #[v] 233 (0,0)):=X6 (by decide);have HQ:Hid (∀g,v.ownBlock=some g->base<=g/\g<wr.heap.size):=QLh (λ g hg=>HOWN.out.lt g hg);have n1:=Z5 HOWN.out VN2.out n8n;have n2:=Z5 HOWN.out VW2.out n8b;have n4:=Z5 HOWN.out VV2.out n8w;have c1:wr.cell? ⟨bn,0,none⟩=some (.int .u64 n):=Qa VN2.out 0;have c2:wr.cell? ⟨bw,0,none⟩=some (.pointer (some ⟨b,0,none⟩)):=Qa VW2.out 0;have c4:wr.cell? ⟨b,0,none⟩=some v:=Qa VV2.out 0;have hbV:base<=wr.heap.size:=Nat.le_trans hbase (Nat.le_of_lt (lt_of_block VV2.out));clear hv hown;go_upto_region 10 with fail;refine Qp 14 11 (v.ownBlock) (Kx [λ u _=>u=(.pointer (some ⟨b,0,none⟩)),λ u _=>u=(.pointer (some ⟨b,0,none⟩)),λ u _=>u=(.pointer (some ⟨b,0,none⟩)),λ u _=>u=(.pointer (some ⟨b,0,none⟩)),λ u _=>u=(v),λ u _=>u=(.int .u64 n),λ u _=>u=(.int .i64 i),λ u _=>u=(.int .i64 (8 * (i:Int))),λ u _=>u=(.int .u64 (n / 2 ^ (8 * i))),λ u _=>u=(.int .u8 x),λ u w'=>∃b,u=.slice (some ⟨b,0,none⟩) 1 1/\some b≠v.ownBlock/\w'.heap[b]?=some (.cells ([.int .u8 x]).toArray 5 (0,0)),λ u w'=>w'.ownsRow (base) 5 1 u (t.size+1) (Lib.strCells t++[.int .u8 x]),λ u _=>u=(.pointer (some ⟨b,0,none⟩)),λ u _=>u=(.pointer (some ⟨b,0,none⟩))]) rfl (by kernel_rfl) (by kernel_rfl) (Q9 ⟨Qd,Qd,Qd,Qd,Qd,Qd,Qd,Qd,Qd,Qd,?m10,?m11,Qd,Qd,trivial⟩) (Q6 14 ⟨?s0,?s1,?s2,?s3,?s4,?s5,?s6,?s7,?s8,?s9,?s10,?s11,?s12,?s13,trivial⟩) ?_
      case m10=>exact⟨λ u w1 w' h ⟨b,h1,hb,hb'⟩=>⟨b,h1,hb,Zo h hb'⟩,λ _ u w1 w' h ⟨b,h1,hb,hb'⟩=>⟨b,h1,hb,Qw h hb hb'⟩⟩
      case m11=>exact⟨λ u w1 w' h hu=>Qs hu h,λ hn=>absurd rfl hn⟩
      case s0=>refine Qi (v:=(.pointer (some ⟨b,0,none⟩))) (λ av wv hE hS hO hD=>?_) (λ _=>rfl);have f2:=QEf av 2 (.pointer (some ⟨bw,0,none⟩)) (hO.2.2 2 rfl);have c1:=Qb hE n1 c1;have c2:=Qb hE n2 c2;have c4:=Qb hE n4 c4;refine⟨rfl,?_⟩;simp[go_sem,f2,c1,c2,c4,y0,y1,y2,y3]
      case s1=>refine Qi (v:=(.pointer (some ⟨b,0,none⟩))) (λ av wv hE hS hO hD=>?_) (λ _=>rfl);have f2:=QEf av 2 (.pointer (some ⟨bw,0,none⟩)) (hO.2.2 2 rfl);have c1:=Qb hE n1 c1;have c2:=Qb hE n2 c2;have c4:=Qb hE n4 c4;refine⟨rfl,?_⟩;simp[go_sem,f2,c1,c2,c4,y0,y1,y2,y3]
      case s2=>refine Qi (v:=(.pointer (some ⟨b,0,none⟩))) (λ av wv hE hS hO hD=>?_) (λ _=>rfl);have f51:=QEf av 51 (.pointer (some ⟨b,0,none⟩)) (hD.1 rfl _ rfl);refine⟨rfl,?_⟩;simp[go_sem,f51,y0,y1,y2,y3]
      case s3=>refine Qi (v:=(.pointer (some ⟨b,0,none⟩))) (λ av wv hE hS hO hD=>?_) (λ _=>rfl);have f52:=QEf av 52 (.pointer (some ⟨b,0,none⟩)) (hD.1 rfl _ rfl);refine⟨rfl,?_⟩;simp[go_sem,f52,y0,y1,y2,y3]
      case s4=>refine Qi (v:=(v)) (λ av wv hE hS hO hD=>?_) (λ _=>rfl);have f53:=QEf av 53 (.pointer (some ⟨b,0,none⟩)) (hD.1 rfl _ rfl);have c1:=Qb hE n1 c1;have c2:=Qb hE n2 c2;have c4:=Qb hE n4 c4;refine⟨rfl,?_⟩;simp[go_sem,f53,c1,c2,c4,y0,y1,y2,y3]
      case s5=>refine Qi (v:=(.int .u64 n)) (λ av wv hE hS hO hD=>?_) (λ _=>rfl);have f1:=QEf av 1 (.pointer (some ⟨bn,0,none⟩)) (hO.2.2 1 rfl);have c1:=Qb hE n1 c1;have c2:=Qb hE n2 c2;have c4:=Qb hE n4 c4;refine⟨rfl,?_⟩;simp[go_sem,f1,c1,c2,c4,y0,y1,y2,y3]
      case s6=>refine Qi (v:=(.int .i64 i)) (λ av wv hE hS hO hD=>?_) (λ _=>rfl);have f5:=QEf av 5 (.int .i64 i) (hO.2.2 5 rfl);refine⟨rfl,?_⟩;simp[go_sem,f5,y0,y1,y2,y3]
      case s7=>refine Qi (v:=(.int .i64 (8 * (i:Int)))) (λ av wv hE hS hO hD=>?_) (λ _=>rfl);have f56:=QEf av 56 (.int .i64 i) (hD.1 rfl _ rfl);refine⟨rfl,?_⟩;simp[go_sem,f56,y0,y1,y2,y3]
      case s8=>refine Qi (v:=(.int .u64 (n / 2 ^ (8 * i)))) (λ av wv hE hS hO hD=>?_) (λ _=>rfl);have f55:=QEf av 55 (.int .u64 n) (hD.1 rfl _ rfl);have f57:=QEf av 57 (.int .i64 (8 * (i:Int))) (hD.2.1 rfl _ rfl);refine⟨rfl,?_⟩;simp[go_sem,f55,f57,y0,y1,y2,y3]
      case s9=>refine Qi (v:=(.int .u8 x)) (λ av wv hE hS hO hD=>?_) (λ _=>rfl);have f58:=QEf av 58 (.int .u64 (n / 2 ^ (8 * i))) (hD.1 rfl _ rfl);refine⟨rfl,?_⟩;simp[go_sem,f58,y0,y1,y2,y3]
      case s10=>
       refine Qu (λ av wv hE hS hO hD=>?_);have f59:=QEf av 59 (.int .u8 x) (hD.1 rfl _ rfl);refine⟨rfl,?_⟩;refine Zn (v:=.slice (some ⟨wv.heap.size,0,none⟩) 1 1) (w':=wv.alloc (.cells ([.int .u8 x]).toArray 5)) (by first | (simp[go_sem,f59,y0,y1,y2,y3];done) | (simp[go_sem,f59,y0,y1,y2,y3];rfl)) ⟨_,rfl,Qo (Qf (Zj _) _),wv.heap.size,rfl,?_,heap_alloc_new _ _⟩
       exact λ e=>absurd (HQ.out _ e.symm).2 (by have:=hE.size;simp at this;omega)
      case s11=>refine Qu (λ av wv hE hS hO hD=>?_);have d54:av.eval (.tmp 54)=(v):=hD.1 rfl _ rfl;have f54:=(Xd av 54).symm.trans d54;have d60:(λ u w'=>∃b,u=.slice (some ⟨b,0,none⟩) 1 1/\some b≠v.ownBlock/\w'.heap[b]?=some (.cells ([.int .u8 x]).toArray 5 (0,0))) (av.eval (.tmp 60)) wv:=hD.2.1 rfl _ rfl;refine⟨rfl,?_⟩;obtain⟨bS,hS1,hbS,hcS⟩:=d60;have hown1:wv.ownsRow (base) 5 1 (v) (t.size) (Lib.strCells t):=Qs (w:=World.drew _) (HOWN.out) (hS rfl);refine wp_append_lies wv _ _ _ rfl (base) 5 i0 (.int .u8 0) 1 1 Tryz.underlying41 hi hz0 hz1 hz2 rfl (by decide) (v) (t.size) _ d54 hown1 ⟨bS,0,none⟩ 1 1 ([.int .u8 x]) (by exact hS1) rfl (World.news_of_block hcS) (QfR _) (by decide) (by unfold maxLen;omega) (by omega) (by have:=hE.size;simp at this;omega) _ rfl ?_;intro g cap1 w2 hown2 hgrow hat hlt2;exact⟨_,rfl,QcH hgrow,hown2⟩
      case s12=>refine Qi (v:=(.pointer (some ⟨b,0,none⟩))) (λ av wv hE hS hO hD=>?_) (λ _=>rfl);have f50:=QEf av 50 (.pointer (some ⟨b,0,none⟩)) (hD.1 rfl _ rfl);refine⟨rfl,?_⟩;simp[go_sem,f50,y0,y1,y2,y3]
      case s13=>refine Qi (v:=(.pointer (some ⟨b,0,none⟩))) (λ av wv hE hS hO hD=>?_) (λ _=>rfl);have f62:=QEf av 62 (.pointer (some ⟨b,0,none⟩)) (hD.1 rfl _ rfl);refine⟨rfl,?_⟩;simp[go_sem,f62,y0,y1,y2,y3]
      intro a' w' hE hO hall;have hA:=Qn (ds:=[50,51,52,53,54,55,56,57,58,59,60,61,62,63]) rfl hO (by kernel_rfl);have e50:a'.eval (.tmp 50)=(.pointer (some ⟨b,0,none⟩)):=hall.1 _ rfl;have e51:a'.eval (.tmp 51)=(.pointer (some ⟨b,0,none⟩)):=hall.2.1 _ rfl;have e52:a'.eval (.tmp 52)=(.pointer (some ⟨b,0,none⟩)):=hall.2.2.1 _ rfl;have e53:a'.eval (.tmp 53)=(.pointer (some ⟨b,0,none⟩)):=hall.2.2.2.1 _ rfl;have e54:a'.eval (.tmp 54)=(v):=hall.2.2.2.2.1 _ rfl;have e55:a'.eval (.tmp 55)=(.int .u64 n):=hall.2.2.2.2.2.1 _ rfl;have e56:a'.eval (.tmp 56)=(.int .i64 i):=hall.2.2.2.2.2.2.1 _ rfl;have e57:a'.eval (.tmp 57)=(.int .i64 (8 * (i:Int))):=hall.2.2.2.2.2.2.2.1 _ rfl;have e58:a'.eval (.tmp 58)=(.int .u64 (n / 2 ^ (8 * i))):=hall.2.2.2.2.2.2.2.2.1 _ rfl;have e59:a'.eval (.tmp 59)=(.int .u8 x):=hall.2.2.2.2.2.2.2.2.2.1 _ rfl;have e60:(λ u w'=>∃b,u=.slice (some ⟨b,0,none⟩) 1 1/\some b≠v.ownBlock/\w'.heap[b]?=some (.cells ([.int .u8 x]).toArray 5 (0,0))) (a'.eval (.tmp 60)) w':=hall.2.2.2.2.2.2.2.2.2.2.1 _ rfl;have e61:(λ u w'=>w'.ownsRow (base) 5 1 u (t.size+1) (Lib.strCells t++[.int .u8 x])) (a'.eval (.tmp 61)) w':=hall.2.2.2.2.2.2.2.2.2.2.2.1 _ rfl;have e62:a'.eval (.tmp 62)=(.pointer (some ⟨b,0,none⟩)):=hall.2.2.2.2.2.2.2.2.2.2.2.2.1 _ rfl;have e63:a'.eval (.tmp 63)=(.pointer (some ⟨b,0,none⟩)):=hall.2.2.2.2.2.2.2.2.2.2.2.2.2.1 _ rfl;obtain⟨v60,hv60⟩:∃v,a'.eval (.tmp 60)=v:=⟨_,rfl⟩;rw[hv60]at e60;obtain⟨v61,hv61⟩:∃v,a'.eval (.tmp 61)=v:=⟨_,rfl⟩;rw[hv61]at e61;simp only[List.foldl_cons,List.foldl_nil,Act.put,List.setIfInBounds_toArray,List.set_cons_succ,List.set_cons_zero,e50,e51,e52,e53,e54,e55,e56,e57,e58,e59,hv60,hv61,e62,e63]at hA;clear hO hall e50 e51 e52 e53 e54 e55 e56 e57 e58 e59 hv60 hv61 e62 e63;subst hA;obtain⟨ga,gc,rfl⟩:=Uo e61;have hst:=QbO (s':=t++baL [toB x]) hbase VV2.out HOWN.out hE (by rw[Qdf];exact e61) (by rw[J9,Yv hx0.1 hx0.2]);have HST:=QLh hst;have hc4:=hst.1;have hf4:=hst.2.1;clear hst hE e61 c1 c2 c4 n1 n2 n4;go_wp2
      go_roundg i
      case rel=>exact⟨by omega,by go_num,by rw[HT.out];exact HST.out.2.2.1,HWK.out.trans HST.out.2.2.2⟩
      case measure=>omega
 ·have HX:Hid (decide (n<r.below \/ r.below=0)=false):=QLh (decide_eq_false hx)
  have g1:decide (r.below<=n)=true:=by simp;omega
  have g2:decide (0<r.below)=true:=by have:=HR.out.b0;simp;omega
  have HNX:=QLh hx;clear hx
  go_enter Tryz.func291,Tryz.ntmps291
  go_wp2;go_ret;exact⟨Xv HX.out.symm,by rw[if_neg HNX.out];exact HWR.out.below (by(repeat (first | exact Below.refl _ _ | assumption | (refine Zy ?_) | (refine Zg ?_ _) | (refine Qf ?_ _) | (refine Ji ?_ (by first | omega | (simp;done) | (simp;omega)) _) | (refine Qj ?_ (by assumption))))),WK.of_below (by(repeat (first | exact Below.refl _ _ | assumption | (refine Zy ?_) | (refine Zg ?_ _) | (refine Qf ?_ _) | (refine Ji ?_ (by first | omega | (simp;done) | (simp;omega)) _) | (refine Qj ?_ (by assumption))))) (by have:=HWR.out.1;have:=HWR.out.lt;omega)⟩
structure Qf5(B:Nat)(w:World):Prop where
 glob:5<B
 size:B<=w.heap.size
 tab:∀k,k<5->∃tb tq rc,tb<B/\w.cell? ⟨5,k,none⟩=some (.slice (some ⟨tb,tq,none⟩) (len (Zw k)) rc)/\Qel w (some ⟨tb,tq,none⟩) (Zw k)
theorem Qf5.keep{B B':Nat}{w w':World}(h:Qf5 B w)(hb:Below B' w w')(hB:B<=B'):Qf5 B w':=by
 refine⟨h.glob,Nat.le_trans h.size hb.size,λ k hk=>?_⟩;obtain⟨tb,tq,rc,h1,h2,h3⟩:=h.tab k hk;have e:∀b o,b<B->w'.cell? ⟨b,o,none⟩=w.cell? ⟨b,o,none⟩:=λ b o hb2=>hb.cell (p:=⟨b,o,none⟩) (Nat.lt_of_lt_of_le hb2 hB);refine⟨tb,tq,rc,h1,(e _ _ h.glob).trans h2,λ i hi=>?_⟩;obtain⟨b,off,e2,c0,c1,c2⟩:=h3 i hi
 cases e2
 exact⟨tb,tq,rfl,(e _ _ h1).trans c0,(e _ _ h1).trans c1,(e _ _ h1).trans c2⟩
theorem Qi1(k:Nat):0<len (Zw k):=by unfold Zw;split <;> simp[len]
theorem QqJ{sort:Nat}{n:Int}(h0:0<=n)(i:Nat)(hi:i<len (Zw sort)):(Qec (Zw sort) i).Ok n:=by
 have hi':i<(Zw sort).length:=hi;rw[U3 _ i hi'];have hm:(Zw sort)[i] ∈ Zw sort:=List.getElem_mem _;generalize (Zw sort)[i]=r at hm;unfold Zw at hm
 split at hm <;> simp at hm
 ·rcases hm with rfl | rfl <;> exact⟨by decide,by decide,by decide,by decide,by decide,by decide,λ h=>by simp at h⟩
 ·rcases hm with rfl | rfl | rfl
  ·exact⟨by decide,by decide,by decide,by decide,by decide,by decide,λ _ h=>by simp at h;simp;omega⟩
  ·exact⟨by decide,by decide,by decide,by decide,by decide,by decide,λ h=>by simp at h⟩
  ·exact⟨by decide,by decide,by decide,by decide,by decide,by decide,λ h=>by simp at h⟩
 ·rcases hm with rfl | rfl
  ·exact⟨by decide,by decide,by decide,by decide,by decide,by decide,λ _ h=>by simp at h;simp;omega⟩
  ·exact⟨by decide,by decide,by decide,by decide,by decide,by decide,λ h=>by simp at h⟩
 ·rcases hm with rfl | rfl
  ·exact⟨by decide,by decide,by decide,by decide,by decide,by decide,λ _ h=>by simp at h;simp;omega⟩
  ·exact⟨by decide,by decide,by decide,by decide,by decide,by decide,λ h=>by simp at h⟩
 ·rcases hm with rfl | rfl | rfl | rfl | rfl
  ·exact⟨by decide,by decide,by decide,by decide,by decide,by decide,λ _ h=>by simp at h;simp;omega⟩
  all_goals exact⟨by decide,by decide,by decide,by decide,by decide,by decide,λ h=>by simp at h⟩
theorem QpP{sort i:Nat}{n:Int}(hi:i<len (Zw sort))(hn:∀j,j<i->¬(n<(Qec (Zw sort) j).below \/ (Qec (Zw sort) j).below=0))(hy:n<(Qec (Zw sort) i).below \/ (Qec (Zw sort) i).below=0):Xs sort n=QfE (Qec (Zw sort) i) n:=by
 have hi':i<(Zw sort).length:=hi;have hf:(Zw sort).find? (λ r=>decide (n<r.below \/ r.below=0))=some (Qec (Zw sort) i):=by
  rw[U3 _ i hi']at hy ⊢;rw[List.find?_eq_some_iff_getElem];refine⟨by simpa using hy,i,hi',rfl,λ j hj=>?_⟩;have:=hn j hj;rw[U3 _ j (by omega)]at this
  simpa using this
 unfold Xs;rw[hf]
theorem QmM{sort:Nat}{n:Int}(hn:∀j,j<len (Zw sort)->¬(n<(Qec (Zw sort) j).below \/ (Qec (Zw sort) j).below=0)):Xs sort n=[]:=by
 have hf:(Zw sort).find? (λ r=>decide (n<r.below \/ r.below=0))=none:=by
  rw[List.find?_eq_none];intro x hx;obtain⟨j,hj,rfl⟩:=List.getElem_of_mem hx;have:=hn j hj;rw[U3 _ j hj]at this
  simpa using this
 unfold Xs;rw[hf]
theorem QfH{w w':World}{tb tq B B':Nat}{l:List Qda}(h:Qel w (some ⟨tb,tq,none⟩) l)(htb:tb<B)(hb:Below B' w w')(hB:B<=B'):Qel w' (some ⟨tb,tq,none⟩) l:=λ i hi=>by
 have e:∀o,w'.cell? ⟨tb,o,none⟩=w.cell? ⟨tb,o,none⟩:=λ o=>hb.cell (p:=⟨tb,o,none⟩) (Nat.lt_of_lt_of_le htb hB);obtain⟨b,off,e2,c0,c1,c2⟩:=h i hi
 cases e2
 exact⟨tb,tq,rfl,(e _).trans c0,(e _).trans c1,(e _).trans c2⟩
def QsV(s':ByteArray)(b base:Nat)(w:World)(e:Ending)(w':World):Prop:=e=.returned (.tuple #[])/\WrB w' b base s'/\WK base b w w'
theorem Qia(B b base sort:Nat)(n:Int)(s:ByteArray)(w:World)(ht:Qf5 B w)(hB:B<=base)(hW:WrB w b base s)(h5:sort<5)(h0:0<=n)(h1:n<=18446744073709551615)(hs:s.size<=70000000000000):
  Calls Tryz.prog 263 #[.pointer (some ⟨b,0,none⟩),.int .i64 sort,.int .u64 n] w (QsV (s++baL (Xs sort n)) b base w):=by
 have HT:=QLh ht;have HWR:=QLh hW;obtain⟨tb,tq,rc,htb,hg,hrows⟩:=ht.tab sort h5;have HROWS:=QLh hrows;have HBS:Hid (base<=w.heap.size):=QLh (by have:=hW.1;have:=hW.lt;omega);have hgl:5<w.heap.size:=Ql hg;have i5:(sort:Int)<5:=by omega
 have eg:=enters_of Tryz.func291 (by kernel_rfl) rfl;clear hrows ht hW;obtain⟨nr,hnr⟩:∃nr,len (Zw sort)=nr:=⟨_,rfl⟩;have HNR:=QLh hnr;have nr5:nr<=5:=by rw[<-hnr];unfold Zw;split <;> simp[len]
 rw[hnr]at hg;clear hnr
 go_enter Tryz.func263,Tryz.ntmps263
 go_wp2;obtain⟨bw,hbw⟩:∃bw,w.heap.size=bw:=⟨_,rfl⟩;obtain⟨V,hV⟩:∃V,(w.alloc (.cells #[.pointer (some ⟨b,0,none⟩)] 177)).alloc (.cells #[.int .u64 n] 23)=V:=⟨_,rfl⟩;have VW:Hid (V.heap[bw]?=some (.cells #[.pointer (some ⟨b,0,none⟩)] 177 (0,0))):=QLh (by rw[<-hV,<-hbw];exact Qe (heap_alloc_new _ _) _);have VN:Hid (V.heap[bw+1]?=some (.cells #[.int .u64 n] 23 (0,0))):=QLh (by rw[<-hV,<-hbw];exact Qg _ (by simp));have VB:Hid (Below w.heap.size w V):=QLh (by rw[<-hV];(repeat (first | exact Below.refl _ _ | assumption | (refine Zy ?_) | (refine Zg ?_ _) | (refine Qf ?_ _) | (refine Ji ?_ (by first | omega | (simp;done) | (simp;omega)) _) | (refine Qj ?_ (by assumption)))))
 have HWV:Hid (WrB V b base s):=QLh (HWR.out.below VB.out);have hbb:Hid (b<bw):=QLh (by rw[<-hbw];exact HWR.out.lt);have HBV:Hid (base<=V.heap.size):=QLh (by have:=VB.out.size;have:=HBS.out;omega);rw[hbw]
 try rw[hV]
 clear hV hbw hgl
 go_loopg [14] nr (λ g i wr=>∃m:Nat,g+m=nr/\i=.int .i64 m/\Hid (∀j,j<m->¬(n<(Qec (Zw sort) j).below \/ (Qec (Zw sort) j).below=0))/\Hid (WrB wr b base s)/\Hid (WK base b V wr))
 case atStart=>exact⟨0,rfl,rfl,λ j hj=>by omega,HWV.out,WK.refl _ _ _⟩
 case round=>
  clear HWV;obtain⟨m,hm,rfl,HN,HWW,HWK⟩:=hrel
  by_cases hlt:m<nr
  ·have i1:(m:Int)<nr:=by omega
   obtain⟨rb,ro,hre,c0,c1,c2⟩:=QfH (QfH HROWS.out htb VB.out (Nat.le_trans hB HBS.out)) htb HWK.out.bel hB m (by rw[HNR.out];exact hlt)
   cases hre
   obtain⟨r,hr⟩:∃r,Qec (Zw sort) m=r:=⟨_,rfl⟩;have HRE:=QLh hr;rw[hr]at c0 c1 c2;clear hr;have n8n:QhG (.cells #[.int .u64 n] 23 (0,0)):=X6 (by decide);have n8b:QhG (.cells #[.pointer (some ⟨b,0,none⟩)] 177 (0,0)):=X6 (by decide);go_wp2_with fail;refine(QoA r (bw+1) bw b base n s _ (Qe (HWK.out.keep _ _ VN.out (by have:=hbb.out;omega) n8n) _) (Qe (HWK.out.keep _ _ VW.out (by have:=hbb.out;omega) n8b) _) (HWW.out.below (Qf (Below.refl _ _) _)) h0 h1 (by rw[<-HRE.out];exact QqJ h0 m (by rw[HNR.out];exact hlt)) hs).mono ?_;rintro e w6 ⟨rfl,hw6,hk6⟩;have HK6:Hid (WK base b V w6):=QLh ((HWK.out.next (Qf (Below.refl _ _) _) HBV.out).trans hk6);have HW6:=QLh hw6;clear hw6 hk6 HWK HWW c0 c1 c2 n8n n8b
   by_cases hx:n<r.below \/ r.below=0
   ·rw[decide_eq_true hx]
    rw[if_pos hx]at HW6;have HP:Hid (Xs sort n=QfE r n):=QLh (by rw[<-HRE.out];exact QpP (by rw[HNR.out];exact hlt) HN.out (by rw[HRE.out];exact hx));clear hx;go_wp2;refine bodyPost_ret (results_none rfl _ _ _) rfl ?_;refine⟨rfl,?_,(WK.of_below VB.out HBS.out).trans HK6.out⟩;rw[HP.out];exact HW6.out
   ·rw[decide_eq_false hx]
    rw[if_neg hx]at HW6;have HN2:Hid (∀j,j<m+1->¬(n<(Qec (Zw sort) j).below \/ (Qec (Zw sort) j).below=0)):=QLh (λ j hj=>by
     by_cases e:j=m
     ·subst e;rw[HRE.out];exact hx
     ·exact HN.out j (by omega))
    clear hx;go_wp2
    go_roundg (nr - (m+1))
    case rel=>exact⟨m+1,by omega,by go_num,HN2.out,HW6.out,HK6.out⟩
    case measure=>omega
  ·obtain rfl:m=nr:=by omega
   have i1:¬(m:Int)<m:=by omega
   go_wp2
   go_end0
   refine⟨rfl,?_,(WK.of_below VB.out HBS.out).trans HWK.out⟩;rw[QmM (λ j hj=>HN.out j (by rw[HNR.out]at hj;exact hj))];have e:s++baL []=s:=Jc (by simp[baL]);rw[e];exact HWW.out
def Qag:List ByteArray->ByteArray
 | []=>ByteArray.empty
 | x :: r=>x++Qag r
theorem QdS:∀a b:List ByteArray,Qag (a++b)=Qag a++Qag b
 | [],b=>by simp[Qag]
 | x :: r,b=>by rw[List.cons_append,Qag,QdS r b,Qag,ByteArray.append_assoc]
theorem QmE(a:List ByteArray)(x:ByteArray):Qag (a++[x])=Qag a++x:=by rw[QdS];simp[Qag]
structure Xb where
 key:ByteArray
 must:Bool
 empty:Bool
 may:Bool
 bytes:ByteArray
def QjP(s:ByteArray):ByteArray:=Yy 2 s.size s
def Vw(s:ByteArray):ByteArray:=Yy 1 s.size s
def Qef(n:Int):ByteArray:=Yy 0 n ByteArray.empty
def Qfe(n:Nat):ByteArray:=Yy 4 n ByteArray.empty
def Jp(f:Xb):ByteArray:=QjP f.key++f.bytes
def Jo(l:List Xb):List Xb:=l.filter λ f=>!f.empty
def Qdo(l:List Xb):ByteArray:=Qfe (Jo l).length++Qag ((Jo l).map Jp)
def Jn(l:List Xb):Bool:=l.all λ f=>f.may
def Qaw(l:List (ByteArray × ByteArray)):List (ByteArray × ByteArray):=l.filter λ p=>decide (p.2.size≠0)
def Qln(l:List (ByteArray × ByteArray)):ByteArray:=Qfe (Qaw l).length++Qag ((Qaw l).map λ p=>QjP p.1++p.2)
theorem QkB:∀(l:List Xb) (r:List (ByteArray × ByteArray)),l.length=r.length->(∀i (h:i<l.length) (h':i<r.length),l[i].key=r[i].1/\(l[i].empty=true ↔ r[i].2.size=0)/\(l[i].empty=false->l[i].bytes=r[i].2))->
  (Jo l).length=(Qaw r).length/\Qag ((Jo l).map Jp)=Qag ((Qaw r).map λ p=>QjP p.1++p.2)
 | [],[],_,_=>⟨rfl,rfl⟩
 | [],_ :: _,h,_=>by simp at h
 | _ :: _,[],h,_=>by simp at h
 | f :: l,p :: r,h,hh=>by
  have ih:=QkB l r (by simpa using h) (λ i h1 h2=>hh (i+1) (by simpa using h1) (by simpa using h2));have h0:=hh 0 (by simp) (by simp);simp only[List.getElem_cons_zero]at h0;obtain⟨e1,e2,e3⟩:=h0;unfold Jo Qaw at ih ⊢
  cases he:f.empty with
  | true=>
   have h2:=e2.1 he;rw[List.filter_cons_of_neg (by simp[he]),List.filter_cons_of_neg (by simp[h2])];exact ih
  | false=>
   have h2:p.2.size≠0:=λ h=>by rw[e2.2 h]at he;cases he
   rw[List.filter_cons_of_pos (by simp[he]),List.filter_cons_of_pos (by simp[h2])];refine⟨by simp[ih.1],?_⟩;rw[List.map_cons,List.map_cons,Qag,Qag,ih.2];unfold Jp;rw[e1,e3 he]
theorem QrE{l:List Xb}{r:List (ByteArray × ByteArray)}(h:l.length=r.length)(hh:∀i (h:i<l.length) (h':i<r.length),l[i].key=r[i].1/\(l[i].empty=true ↔ r[i].2.size=0)/\(l[i].empty=false->l[i].bytes=r[i].2)):Qdo l=Qln r:=by obtain⟨h1,h2⟩:=QkB l r h hh;unfold Qdo Qln;rw[h1,h2]
end Go.Proofs.YtpobhbdomldecaaGreatDoor

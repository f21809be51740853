/- errors.Is and errors.As, of faults. -/
import Derived.Test.YtmcmapcijncblaaDoorUnpB
import Derived.LaidEql
import Derived.Stop.Asserts
import Derived.RowKitTokens
namespace Go.Proofs.YtmcmapcijncblaaDoor
open Go.RowKit Go.Extern.Stop Go.Stop Go.Extern

theorem run_equalIn_int (w : World) {P : Program} (d : Nat) {ti tn : TypeId} {ms : Array (String × TypeId)} {i : TypeInfo} {k : IntKind} (a b : Int)
    (hi : P.underlying ti = some (.interface ms)) (hn : P.underlying tn = some (.int k)) (hinfo : P.info? tn = some i) (hcomp : i.comparable = true) :
    (Op.equalIn (d + 2) ti (.iface tn (.int k a)) (.iface tn (.int k b))).run P w = .ok (a == b) w := by
  simp [Op.equalIn, run_underlying hi, run_underlying hn, typeInfo, hinfo, hcomp]
theorem run_eql_int {P : Program} {ti tn : TypeId} {ms : Array (String × TypeId)} {i : TypeInfo} {k : IntKind} (a b : Int)
    (hi : P.underlying ti = some (.interface ms)) (hn : P.underlying tn = some (.int k)) (hinfo : P.info? tn = some i) (hcomp : i.comparable = true) (w : World) :
    (binOp .eql ti (.iface tn (.int k a)) (.iface tn (.int k b))).run P w = .ok (.bool (a == b)) w := by
  simp only [binOp]
  simp [Op.equal, Op.maxDepth, run_equalIn_int w 9998 a b hi hn hinfo hcomp]

theorem rtOf (gs : Nat) (hg : gs = Tryd.prog.globals.size) (t : TypeId) (v : Value) (w : World) (ht : t = 34 ∨ t = 61) : (Extern.ReflectliteType.typeOf #[.iface t v]).run Tryd.prog w = .ok (.iface 100 (.agg #[.pointer (some ⟨gs, t, none⟩)])) w := by
  subst hg
  rcases ht with rfl | rfl <;> kernel_rfl
theorem rtComparable (gs : Nat) (hg : gs = Tryd.prog.globals.size) (w : World) : ((Extern.ReflectliteType.method fun t => do Extern.Rtype.noPackHeld "Comparable" t; (fun a => Value.bool a.comparable) <$> typeInfo t) #[.agg #[.pointer (some ⟨gs, 34, none⟩)]]).run Tryd.prog w = .ok (.bool true) w := by
  subst hg; kernel_rfl
theorem rtMethodComparable (n : Nat) (v : Value) (w : World) : (Go.method (n + 1) 100 v "Comparable").run Tryd.prog w = .ok (67, v) w := by kernel_rfl
theorem errnoComp : (Tryd.prog.info? 34).map (·.comparable) = some true := by kernel_rfl
theorem noIsF (v : Value) (xT : TypeId) (w : World) : (Instr.typeAssert (.iface 61 v) xT 110 true).run Tryd.prog w = .ok (.tuple #[.nilIface, .bool false]) w := run_typeAssert_lacksB Tryd.underlying110 (by kernel_rfl) (by kernel_rfl) v xT w
theorem hasUnwrapF (v : Value) (xT : TypeId) (w : World) : (Instr.typeAssert (.iface 61 v) xT 107 true).run Tryd.prog w = .ok (.tuple #[.iface 61 v, .bool true]) w := run_typeAssert_hasB Tryd.underlying107 (by kernel_rfl) v xT w
theorem noIsE (v : Value) (xT : TypeId) (w : World) : (Instr.typeAssert (.iface 34 v) xT 110 true).run Tryd.prog w = .ok (.tuple #[.nilIface, .bool false]) w := run_typeAssert_lacksB Tryd.underlying110 (by kernel_rfl) (by kernel_rfl) v xT w
theorem noUnwrapE (v : Value) (xT : TypeId) (w : World) : (Instr.typeAssert (.iface 34 v) xT 107 true).run Tryd.prog w = .ok (.tuple #[.nilIface, .bool false]) w := run_typeAssert_lacksB Tryd.underlying107 (by kernel_rfl) (by kernel_rfl) v xT w
theorem noUnwrapsE (v : Value) (xT : TypeId) (w : World) : (Instr.typeAssert (.iface 34 v) xT 108 true).run Tryd.prog w = .ok (.tuple #[.nilIface, .bool false]) w := run_typeAssert_lacksB Tryd.underlying108 (by kernel_rfl) (by kernel_rfl) v xT w
theorem methodUnwrapF (n : Nat) (v : Value) (w : World) : (Go.method (n + 1) 61 v "Unwrap").run Tryd.prog w = .ok (61, v) w := by kernel_rfl

set_option maxRecDepth 100000 in
set_option maxHeartbeats 1000000 in
theorem is_fault (f : Nat) (k e : Int) (w : World) (h : w.cell? ⟨f, 0, none⟩ = some (.int .i64 k)) :
    Calls Tryd.prog 22 #[.iface 61 (.pointer (some ⟨f, 0, none⟩)), .iface 34 (.int .i64 e)] w fun x w' => x = .returned (.bool (k == e)) ∧ w' = w := by
  obtain ⟨i, hi, hcmp⟩ := Option.map_eq_some_iff.1 errnoComp
  have h8 := @run_callFunc_extern Tryd.prog 35 _ Extern.ReflectliteType.typeOf Tryd.func35 (by kernel_rfl) (by kernel_rfl) (by kernel_rfl) (by kernel_rfl)
  have h32 := @run_callFunc_extern Tryd.prog 67 _ (Extern.ReflectliteType.method fun t => do Extern.Rtype.noPackHeld "Comparable" t; pure (.bool (← typeInfo t).comparable)) Tryd.func67 (by kernel_rfl) (by kernel_rfl) (by kernel_rfl) (by kernel_rfl)
  obtain ⟨gs, hg⟩ : ∃ gs, gs = Tryd.prog.globals.size := ⟨_, rfl⟩
  have tT := fun w => rtOf gs hg 34 (.int .i64 e) w (.inl rfl)
  have cT := rtComparable gs hg
  clear hg
  have mR := rtMethodComparable
  have n1 := noIsF
  have n2 := hasUnwrapF
  have n3 := noIsE
  have n4 := noUnwrapE
  have n5 := noUnwrapsE
  have n6 := methodUnwrapF
  have q1 := fun (w : World) => run_eql_iface_types (P := Tryd.prog) 61 34 (.pointer (some ⟨f, 0, none⟩)) (.int .i64 e) Tryd.underlying31 (by decide) w
  have q2 := run_eql_int (P := Tryd.prog) k e Tryd.underlying31 Tryd.underlying34 hi hcmp
  go_enter Tryd.func22, Tryd.ntmps22
  cases hke : k == e
  all_goals
    rw [hke] at q2
    go_wp2
    refine wp_loop_rounds 2 ?_
    rw [rounds_succ]
    go_wp2
    rw [rounds_succ]
    go_wp2
    go_ret
    exact ⟨rfl, rfl⟩

/-- errors.Is of no error. -/
theorem is_none (e : Int) (w : World) : Calls Tryd.prog 22 #[.nilIface, .iface 34 (.int .i64 e)] w fun x w' => x = .returned (.bool false) ∧ w' = w := by
  have hn := run_eql_iface_nil_left (P := Tryd.prog) w 34 (.int .i64 e) Tryd.underlying31
  go_enter Tryd.func22, Tryd.ntmps22
  go_wp2
  go_ret
  exact ⟨rfl, rfl⟩
/-- errors.As of no error. -/
theorem as_none (v : Value) (w : World) : Calls Tryd.prog 21 #[.nilIface, v] w fun x w' => x = .returned (.bool false) ∧ w' = w := by
  go_enter Tryd.func21, Tryd.ntmps21
  go_wp2
  go_ret
  exact ⟨rfl, rfl⟩

theorem vOfF (gs : Nat) (hg : gs = Tryd.prog.globals.size) (x : Nat) (w : World) : (Extern.ReflectliteValue.unpack (.iface 61 (.pointer (some ⟨x, 0, none⟩)))).run Tryd.prog w = .ok (.agg #[.pointer (some ⟨gs, 61, none⟩), .pointer (some ⟨w.heap.size, 0, none⟩), .int .u64 150]) (w.alloc (.cells #[.pointer (some ⟨x, 0, none⟩)] 61)) := by
  subst hg; kernel_rfl
theorem vOfFF (gs : Nat) (hg : gs = Tryd.prog.globals.size) (x : Nat) (w : World) : (Extern.ReflectliteValue.unpack (.iface 63 (.pointer (some ⟨x, 0, none⟩)))).run Tryd.prog w = .ok (.agg #[.pointer (some ⟨gs, 63, none⟩), .pointer (some ⟨w.heap.size, 0, none⟩), .int .u64 150]) (w.alloc (.cells #[.pointer (some ⟨x, 0, none⟩)] 63)) := by
  subst hg; kernel_rfl
theorem vType (gs : Nat) (hg : gs = Tryd.prog.globals.size) (a : Addr) (w : World) : (Extern.ReflectliteValue.methodAny (Extern.ReflectliteValue.valueError "reflectlite.Value.Type" 0) (fun t _ _ _ => Extern.ReflectliteType.toType t) #[(.agg #[.pointer (some ⟨gs, 63, none⟩), .pointer (some a), .int .u64 150])]).run Tryd.prog w = .ok (.iface 100 (.agg #[.pointer (some ⟨gs, 63, none⟩)])) w := by
  subst hg; kernel_rfl
theorem mKind (gs : Nat) (hg : gs = Tryd.prog.globals.size) (n : Nat) (w : World) : (Go.method (n + 1) 100 (.agg #[.pointer (some ⟨gs, 63, none⟩)]) "Kind").run Tryd.prog w = .ok (56, .pointer (some ⟨gs, 63, none⟩)) w := by
  subst hg; kernel_rfl
theorem mKindF (gs : Nat) (hg : gs = Tryd.prog.globals.size) (n : Nat) (w : World) : (Go.method (n + 1) 100 (.agg #[.pointer (some ⟨gs, 61, none⟩)]) "Kind").run Tryd.prog w = .ok (56, .pointer (some ⟨gs, 61, none⟩)) w := by
  subst hg; kernel_rfl
theorem mElem (n : Nat) (v : Value) (w : World) : (Go.method (n + 1) 100 v "Elem").run Tryd.prog w = .ok (68, v) w := by kernel_rfl
theorem mImpl (n : Nat) (v : Value) (w : World) : (Go.method (n + 1) 100 v "Implements").run Tryd.prog w = .ok (69, v) w := by kernel_rfl
theorem mAssign (n : Nat) (v : Value) (w : World) : (Go.method (n + 1) 100 v "AssignableTo").run Tryd.prog w = .ok (66, v) w := by kernel_rfl
theorem rElem (gs : Nat) (hg : gs = Tryd.prog.globals.size)  (w : World) : (Extern.ReflectliteType.method Extern.ReflectliteType.elem #[(.agg #[.pointer (some ⟨gs, 63, none⟩)])]).run Tryd.prog w = .ok (.iface 100 (.agg #[.pointer (some ⟨gs, 61, none⟩)])) w := by
  subst hg; kernel_rfl
theorem rAssign (gs : Nat) (hg : gs = Tryd.prog.globals.size)  (w : World) : (Extern.ReflectliteType.relation "AssignableTo" Extern.ReflectliteType.assignableTo #[(.agg #[.pointer (some ⟨gs, 61, none⟩)]), .iface 100 (.agg #[.pointer (some ⟨gs, 61, none⟩)])]).run Tryd.prog w = .ok (.bool true) w := by
  subst hg; kernel_rfl
theorem rImpl (gs : Nat) (hg : gs = Tryd.prog.globals.size)  (w : World) : (Extern.ReflectliteType.relation "Implements" Extern.ReflectliteType.implements_ #[(.agg #[.pointer (some ⟨gs, 61, none⟩)]), .iface 100 (.agg #[.pointer (some ⟨gs, 31, none⟩)])]).run Tryd.prog w = .ok (.bool true) w := by
  subst hg; kernel_rfl
theorem kKind (gs : Nat) (hg : gs = Tryd.prog.globals.size)  (w : World) : (Extern.ReflectliteType.abiMethod (fun t => (fun a => Value.int IntKind.u8 ((a : Nat) : Int)) <$> Extern.Rtype.kind t) #[.pointer (some ⟨gs, 63, none⟩)]).run Tryd.prog w = .ok (.int .u8 22) w := by
  subst hg; kernel_rfl
theorem kKindF (gs : Nat) (hg : gs = Tryd.prog.globals.size)  (w : World) : (Extern.ReflectliteType.abiMethod (fun t => (fun a => Value.int IntKind.u8 ((a : Nat) : Int)) <$> Extern.Rtype.kind t) #[.pointer (some ⟨gs, 61, none⟩)]).run Tryd.prog w = .ok (.int .u8 22) w := by
  subst hg; kernel_rfl
theorem partsFF (gs : Nat) (hg : gs = Tryd.prog.globals.size) (a : Addr) (w : World) : (Extern.ReflectliteValue.parts (.agg #[.pointer (some ⟨gs, 63, none⟩), .pointer (some a), .int .u64 150])).run Tryd.prog w = .ok (some (63, a, 150)) w := by
  subst hg; kernel_rfl
theorem partsF (gs : Nat) (hg : gs = Tryd.prog.globals.size) (a : Addr) (w : World) : (Extern.ReflectliteValue.parts (.agg #[.pointer (some ⟨gs, 61, none⟩), .pointer (some a), .int .u64 150])).run Tryd.prog w = .ok (some (61, a, 150)) w := by
  subst hg; kernel_rfl
theorem partsFa (gs : Nat) (hg : gs = Tryd.prog.globals.size) (a : Addr) (w : World) : (Extern.ReflectliteValue.parts (.agg #[.pointer (some ⟨gs, 61, none⟩), .pointer (some a), .int .u64 406])).run Tryd.prog w = .ok (some (61, a, 406)) w := by
  subst hg; kernel_rfl
theorem elemFF (w : World) : (Extern.Rtype.elem? 63).run Tryd.prog w = .ok (some 61) w := by kernel_rfl
theorem mkF (gs : Nat) (hg : gs = Tryd.prog.globals.size) (p : Addr) (w : World) : (Extern.ReflectliteValue.mk 61 p Extern.ReflectliteValue.flagAddr).run Tryd.prog w = .ok (.agg #[.pointer (some ⟨gs, 61, none⟩), .pointer (some p), .int .u64 406]) w := by
  subst hg; kernel_rfl
theorem directF (w : World) : (Extern.Rtype.directlyAssignable 61 61).run Tryd.prog w = .ok true w := by kernel_rfl
theorem loadFF (b : Nat) (p : Addr) (w : World) (h : w.cell? ⟨b, 0, none⟩ = some (.pointer (some p))) : (loadVar 63 ⟨b, 0, none⟩).run Tryd.prog w = .ok (.pointer (some p)) w := by
  simp [go_sem, h]
theorem vIsNil (gs : Nat) (hg : gs = Tryd.prog.globals.size) (b : Nat) (p : Addr) (w : World) (h : w.cell? ⟨b, 0, none⟩ = some (.pointer (some p))) : (Extern.ReflectliteValue.method (Extern.ReflectliteValue.valueError "reflectlite.Value.IsNil" 0) Extern.ReflectliteValue.isNil #[(.agg #[.pointer (some ⟨gs, 63, none⟩), .pointer (some ⟨b, 0, none⟩), .int .u64 150])]).run Tryd.prog w = .ok (.bool false) w := by
  change (do
    match ← Extern.ReflectliteValue.parts (.agg #[.pointer (some ⟨gs, 63, none⟩), .pointer (some ⟨b, 0, none⟩), .int .u64 150]) with
    | none => Extern.ReflectliteValue.valueError "reflectlite.Value.IsNil" 0
    | some (t, a, fl) => Extern.ReflectliteValue.isNil t a fl (fl % 32) : Sem Value).run Tryd.prog w = _
  simp [partsFF gs hg, Extern.ReflectliteValue.isNil, loadFF b p w h]
theorem vElem (gs : Nat) (hg : gs = Tryd.prog.globals.size) (b : Nat) (p : Addr) (w : World) (h : w.cell? ⟨b, 0, none⟩ = some (.pointer (some p))) : (Extern.ReflectliteValue.method (Extern.ReflectliteValue.valueError "reflectlite.Value.Elem" 0) Extern.ReflectliteValue.elem #[(.agg #[.pointer (some ⟨gs, 63, none⟩), .pointer (some ⟨b, 0, none⟩), .int .u64 150])]).run Tryd.prog w = .ok (.agg #[.pointer (some ⟨gs, 61, none⟩), .pointer (some p), .int .u64 406]) w := by
  change (do
    match ← Extern.ReflectliteValue.parts (.agg #[.pointer (some ⟨gs, 63, none⟩), .pointer (some ⟨b, 0, none⟩), .int .u64 150]) with
    | none => Extern.ReflectliteValue.valueError "reflectlite.Value.Elem" 0
    | some (t, a, fl) => Extern.ReflectliteValue.elem t a fl (fl % 32) : Sem Value).run Tryd.prog w = _
  simp [partsFF gs hg, Extern.ReflectliteValue.elem, elemFF, mkF gs hg, loadFF b p w h]
theorem vSet (gs : Nat) (hg : gs = Tryd.prog.globals.size) (tb b : Nat) (x : Value) (p : Addr) (w : World) (h : w.cell? ⟨b, 0, none⟩ = some (.pointer (some p))) (hx : w.cell? ⟨tb, 0, none⟩ = some x) (hz : w.frozen? ⟨tb, 0, none⟩ = false) :
    (Extern.ReflectliteValue.set #[(.agg #[.pointer (some ⟨gs, 61, none⟩), .pointer (some ⟨tb, 0, none⟩), .int .u64 406]), (.agg #[.pointer (some ⟨gs, 61, none⟩), .pointer (some ⟨b, 0, none⟩), .int .u64 150])]).run Tryd.prog w = .ok (.tuple #[]) (w.setCell ⟨tb, 0, none⟩ (.pointer (some p))) := by
  have l61 : (loadVar 61 ⟨b, 0, none⟩).run Tryd.prog w = .ok (.pointer (some p)) w := by simp [go_sem, h]
  have s61 : (storeVar 61 ⟨tb, 0, none⟩ (.pointer (some p))).run Tryd.prog w = .ok () (w.setCell ⟨tb, 0, none⟩ (.pointer (some p))) := by simp [go_sem, hx, hz]
  change (do
    let (some (dst, a, fl), some (src, b, _)) := (← Extern.ReflectliteValue.parts (.agg #[.pointer (some ⟨gs, 61, none⟩), .pointer (some ⟨tb, 0, none⟩), .int .u64 406]), ← Extern.ReflectliteValue.parts (.agg #[.pointer (some ⟨gs, 61, none⟩), .pointer (some ⟨b, 0, none⟩), .int .u64 150]))
      | unsupported (.noEntry _)
    if fl / Extern.ReflectliteValue.flagAddr % 2 == 0 then unsupported (.noEntry _)
    let val ← loadVar src b
    if ← Extern.Rtype.directlyAssignable dst src then storeVar dst a val
    else if ← Extern.Rtype.implements dst src then
      if (← Extern.Rtype.kind src) == 20 then
        match val with
        | .nilIface => unsupported (.noEntry _)
        | _ => storeVar dst a val
      else storeVar dst a (.iface src val)
    else panicString (_ ++ (← Extern.Rtype.spelt src) ++ _ ++ (← Extern.Rtype.spelt dst))
    pure (.tuple #[]) : Sem Value).run Tryd.prog w = _
  simp [partsF gs hg, partsFa gs hg, l61, directF, s61, Extern.ReflectliteValue.flagAddr]

theorem ext_setb {w w1 : World} {tb : Nat} (h : Below w.heap.size w w1) (v : Value) : ExtB (some tb) w (w1.setCell ⟨tb, 0, none⟩ v) :=
  ⟨h.os, h.tape, h.output, by simpa using h.size, fun i hi hn => by rw [Below.heap_setCell _ _ _ _ (by show i ≠ tb; exact fun e => hn (by rw [e]))]; exact h.block i hi⟩
/-- What the library's variable of the type 'error' holds. -/
def ErrType (w : World) : Prop := w.cell? ⟨5, 0, none⟩ = some (.iface 100 (.agg #[.pointer (some ⟨Tryd.prog.globals.size, 31, none⟩)]))

set_option maxRecDepth 100000 in
set_option maxHeartbeats 2000000 in
theorem as_fault (f tb : Nat) (q : Option Addr) (w : World) (he : ErrType w) (ht : w.heap[tb]? = some (.cells #[.pointer q] 61 (0, 0))) :
    Calls Tryd.prog 21 #[.iface 61 (.pointer (some ⟨f, 0, none⟩)), .iface 63 (.pointer (some ⟨tb, 0, none⟩))] w fun x w' => x = .returned (.bool true) ∧ ExtB (some tb) w w' ∧ w'.heap[tb]? = some (.cells #[.pointer (some ⟨f, 0, none⟩)] 61 (0, 0)) := by
  obtain ⟨gs, hg⟩ : ∃ gs, gs = Tryd.prog.globals.size := ⟨_, rfl⟩
  have ce : w.cell? ⟨5, 0, none⟩ = some (.iface 100 (.agg #[.pointer (some ⟨gs, 31, none⟩)])) := by rw [hg]; exact he
  have hel := lt_of_cell ce
  have ct : w.cell? ⟨tb, 0, none⟩ = some (.pointer q) := block_cell ht 0
  have cz : w.frozen? ⟨tb, 0, none⟩ = false := block_free ht 0
  have htl := lt_of_block ht
  have HT := Lib.hid ht
  clear he ht
  have x31 := @run_callFunc_extern Tryd.prog 31 _ (fun args => Extern.ReflectliteValue.unpack (args.getD 0 (.tuple #[]))) Tryd.func31 (by kernel_rfl) (by kernel_rfl) (by kernel_rfl) (by kernel_rfl)
  have x32 := @run_callFunc_extern Tryd.prog 32 _ (Extern.ReflectliteValue.methodAny (Extern.ReflectliteValue.valueError "reflectlite.Value.Type" 0) fun t _ _ _ => Extern.ReflectliteType.toType t) Tryd.func32 (by kernel_rfl) (by kernel_rfl) (by kernel_rfl) (by kernel_rfl)
  have x33 := @run_callFunc_extern Tryd.prog 33 _ (Extern.ReflectliteValue.method (Extern.ReflectliteValue.valueError "reflectlite.Value.IsNil" 0) Extern.ReflectliteValue.isNil) Tryd.func33 (by kernel_rfl) (by kernel_rfl) (by kernel_rfl) (by kernel_rfl)
  have x35 := @run_callFunc_extern Tryd.prog 35 _ (Extern.ReflectliteType.typeOf) Tryd.func35 (by kernel_rfl) (by kernel_rfl) (by kernel_rfl) (by kernel_rfl)
  have x40 := @run_callFunc_extern Tryd.prog 40 _ (Extern.ReflectliteValue.method (Extern.ReflectliteValue.valueError "reflectlite.Value.Elem" 0) Extern.ReflectliteValue.elem) Tryd.func40 (by kernel_rfl) (by kernel_rfl) (by kernel_rfl) (by kernel_rfl)
  have x41 := @run_callFunc_extern Tryd.prog 41 _ (Extern.ReflectliteValue.set) Tryd.func41 (by kernel_rfl) (by kernel_rfl) (by kernel_rfl) (by kernel_rfl)
  have x56 := @run_callFunc_extern Tryd.prog 56 _ (Extern.ReflectliteType.abiMethod fun t => do pure (.int .u8 (← Extern.Rtype.kind t))) Tryd.func56 (by kernel_rfl) (by kernel_rfl) (by kernel_rfl) (by kernel_rfl)
  have x66 := @run_callFunc_extern Tryd.prog 66 _ (Extern.ReflectliteType.relation "AssignableTo" Extern.ReflectliteType.assignableTo) Tryd.func66 (by kernel_rfl) (by kernel_rfl) (by kernel_rfl) (by kernel_rfl)
  have x68 := @run_callFunc_extern Tryd.prog 68 _ (Extern.ReflectliteType.method Extern.ReflectliteType.elem) Tryd.func68 (by kernel_rfl) (by kernel_rfl) (by kernel_rfl) (by kernel_rfl)
  have x69 := @run_callFunc_extern Tryd.prog 69 _ (Extern.ReflectliteType.relation "Implements" Extern.ReflectliteType.implements_) Tryd.func69 (by kernel_rfl) (by kernel_rfl) (by kernel_rfl) (by kernel_rfl)
  have y1 := vOfF gs hg f
  have y2 := vOfFF gs hg tb
  have y3 := vType gs hg
  have y4 := mKind gs hg
  have y5 := mKindF gs hg
  have y6 := mElem
  have y7 := mImpl
  have y8 := mAssign
  have y9 := rElem gs hg
  have y10 := rAssign gs hg
  have y11 := rImpl gs hg
  have y12 := kKind gs hg
  have y13 := kKindF gs hg
  have y14 := fun (w : World) => rtOf gs hg 61 (.pointer (some ⟨f, 0, none⟩)) w (.inr rfl)
  have y15 := fun (b : Nat) (w : World) h => vIsNil gs hg b ⟨tb, 0, none⟩ w h
  have y16 := fun (X Y : Obj) => vElem gs hg w.heap.size ⟨tb, 0, none⟩ (((w.alloc (.cells #[.pointer (some ⟨tb, 0, none⟩)] 63)).alloc X).alloc Y) (block_cell (block_alloc (block_alloc (heap_alloc_new w _) _) _) 0)
  have y17 := fun (X Y : Obj) => vSet gs hg tb (w.heap.size + 1 + 1 + 1) (.pointer q) ⟨f, 0, none⟩ ((((w.alloc (.cells #[.pointer (some ⟨tb, 0, none⟩)] 63)).alloc X).alloc Y).alloc (.cells #[.pointer (some ⟨f, 0, none⟩)] 61))
    (block_cell (alloc_new_at _ (alloc_size _ (alloc_size _ (alloc_size _ rfl)))) 0) (block_cell (block_alloc (block_alloc (block_alloc (block_alloc HT.out _) _) _) _) 0) (block_free (block_alloc (block_alloc (block_alloc (block_alloc HT.out _) _) _) _) 0)
  clear hg
  go_enter Tryd.func21, Tryd.ntmps21
  go_wp2
  refine wp_loop_rounds 1 ?_
  rw [rounds_succ]
  go_wp2
  go_ret
  refine ⟨rfl, ?_, ?_⟩
  · exact ext_setb (by (repeat (first | exact Below.refl _ _ | assumption | (refine bdrew ?_) | (refine bdrewN ?_ _) | (refine balloc ?_ _) | (refine bset ?_ (by first | omega | (simp; done) | (simp; omega)) _) | (refine bnext ?_ (by assumption))))) _
  · exact block_setCell (block_alloc (block_alloc (block_alloc (block_alloc HT.out _) _) _) _) _
end Go.Proofs.YtmcmapcijncblaaDoor

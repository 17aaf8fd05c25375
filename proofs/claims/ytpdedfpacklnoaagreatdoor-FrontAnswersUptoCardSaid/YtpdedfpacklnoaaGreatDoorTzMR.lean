/- What front.route hands back; words on stores of whole structs. Contracts of errors.As: no error; a Fault, where a Fault is looked for. Contract of front.Route, out of route's. Contracts of Refuse: fro -/
import Derived.Test.YtpdedfpacklnoaaGreatDoorTzMB
import Derived.Test.YtpdedfpacklnoaaGreatDoorTzMH
import Derived.Test.YtpdedfpacklnoaaGreatDoorTzML
import Derived.Test.YtpdedfpacklnoaaGreatDoorTzMP
import Derived.WalkKit
import Derived.LaidEql
import Derived.Stop.Asserts
import Derived.RowKitTokens
import Derived.RegionTactic
import Derived.BigRegion
import Derived.Test.YtpdedfpacklnoaaGreatDoorTzLnF
namespace Go.Proofs.YtpdedfpacklnoaaGreatDoor
open Go.RowKit Go.BL Go.Ct Go.Sl

/-- A struct stored whole. -/
def sets (w : World) (B : Nat) : Nat → List Value → World
 | _, [] => w
 | i, v :: vs => sets (w.setCell ⟨B, i, none⟩ v) B (i + 1) vs
def upd (us : List Value) : Nat → List Value → List Value
 | _, [] => us
 | i, v :: vs => upd (us.set i v) (i + 1) vs
theorem Bk.sets {B : Nat} : ∀ (vs : List Value) {w : World} {us : List Value} (i : Nat), Bk w B us → Bk (sets w B i vs) B (upd us i vs)
 | [], _, _, _, h => h
 | v :: vs, _, _, i, h => Bk.sets vs (i + 1) (h.set i v)
theorem Bk.sets_other {B C : Nat} (hn : C ≠ B) : ∀ (vs : List Value) {w : World} {us : List Value} (i : Nat), Bk w B us → Bk (YtpdedfpacklnoaaGreatDoor.sets w C i vs) B us
 | [], _, _, _, h => h
 | v :: vs, _, _, i, h => Bk.sets_other hn vs (i + 1) (h.other (p := ⟨C, i, none⟩) hn v)
theorem below_sets {D C : Nat} (hD : D ≤ C) {w0 : World} : ∀ (vs : List Value) {w : World} (i : Nat), Below D w0 w → Below D w0 (sets w C i vs)
 | [], _, _, h => h
 | v :: vs, _, i, h => below_sets hD vs (i + 1) (h.setCell (p := ⟨C, i, none⟩) hD v)
theorem own_sets {α : Type} {t k : Nat} {f : α → List Value} {D C : Nat} (hC : C < D) {v : Value} {l : List α} : ∀ (vs : List Value) {w : World} (i : Nat), OwnS t k f w D v l → OwnS t k f (sets w C i vs) D v l
 | [], _, _, h => h
 | u :: vs, _, i, h => own_sets hC vs (i + 1) (h.setCell (p := ⟨C, i, none⟩) hC u)
structure Rq where
 m : List UInt8
 p : List UInt8
 hs : List H.Hdr
 b : List UInt8
def rqV (q : Rq) (h : Value) : Value := .agg #[.string ⟨q.m.toArray⟩, .string ⟨q.p.toArray⟩, h, .string ⟨q.b.toArray⟩]
/-- The value is a cart of the call's own. -/
def CartO (w : World) (B : Nat) (v : Value) (k : Ct) : Prop := ∃ e m c, v = .agg #[e, m, c] ∧ OwnS 92 6 entC w B e k.es ∧ OwnS 150 3 dotC w B m k.x.ms ∧ OwnS 90 3 dotC w B c k.x.cl
/-- .. is what is asked. -/
def AskO (w : World) (B : Nat) (v : Value) (a : Ask) : Prop := ∃ e m c, v = .agg #[.int .i64 a.id, .int .i64 (a.kind : Int), .string ⟨a.key.toArray⟩, .string ⟨a.item.toArray⟩, .int .i64 (a.qty : Int), .int .u64 (a.price : Int), e, m, c] ∧
 OwnS 92 6 entC w B e a.seen.es ∧ OwnS 150 3 dotC w B m a.seen.x.ms ∧ OwnS 90 3 dotC w B c a.seen.x.cl
/-- The end of token.Read. -/
def TokR (o : Except Nat Ct) (w : World) (e : Ending) (w' : World) : Prop := Below w.heap.size w w' ∧
 ((∃ k v, o = .ok k ∧ e = .returned (.tuple #[v, .int .i64 0]) ∧ CartO w' w.heap.size v k) ∨ ((∃ x, o = .error x) ∧ e = .returned (.tuple #[.agg #[.slice none 0 0, .slice none 0 0, .slice none 0 0], .int .i64 150])))
/-- The end of route. -/
def RouR (o : Except Nat Ask) (w : World) (e : Ending) (w' : World) : Prop := Below w.heap.size w w' ∧
 ((∃ a v, o = .ok a ∧ e = .returned (.tuple #[v, .nilIface]) ∧ AskO w' w.heap.size v a) ∨
  (∃ (c : Nat) (i k q p : Int) (s t : ByteArray) (A1 A2 A3 : Option Addr) (n1 n2 n3 c1 c2 c3 : Nat), o = .error c ∧ e = .returned (.tuple #[.agg #[.int .i64 i, .int .i64 k, .string s, .string t, .int .i64 q, .int .u64 p, .slice A1 n1 c1, .slice A2 n2 c2, .slice A3 n3 c3], .iface 85 (.agg #[.int .i64 (c : Int), .int .i64 240])])))
end Go.Proofs.YtpdedfpacklnoaaGreatDoor
namespace Go.Proofs.YtpdedfpacklnoaaGreatDoor
open Go.BL Go.Sl Go.RowKit Go.Extern.Stop Go.Stop Go.Extern

theorem as_nil (t : Value) (w : World) : Calls Tryz.prog 38 #[.nilIface, t] w fun e w' => e = .returned (.bool false) ∧ w = w' := by
 go_enter Tryz.func38, Tryz.ntmps38
 go_wp2
 go_ret
 exact ⟨rfl, rfl⟩
namespace As
theorem valueOf87 (t : Addr) (w : World) : (ReflectliteValue.unpack (.iface 87 (.pointer (some t)))).run Tryz.prog w
  = .ok (.agg #[.pointer (some ⟨10, 87, none⟩), .pointer (some ⟨w.heap.size, 0, none⟩), .int .u64 150]) (w.alloc (.cells #[.pointer (some t)] 87)) := by kernel_rfl
theorem type87 (a : Addr) (w : World) : (ReflectliteValue.methodAny (ReflectliteValue.valueError "reflectlite.Value.Type" 0) (fun t _ _ _ => ReflectliteType.toType t) #[.agg #[.pointer (some ⟨10, 87, none⟩), .pointer (some a), .int .u64 150]]).run Tryz.prog w
  = .ok (.iface 189 (.agg #[.pointer (some ⟨10, 87, none⟩)])) w := by kernel_rfl
theorem mKind (h : Value) (w : World) : (Go.method 336 189 (.agg #[h]) "Kind").run Tryz.prog w = .ok (286, h) w := by kernel_rfl
theorem mElem (h : Value) (w : World) : (Go.method 336 189 (.agg #[h]) "Elem").run Tryz.prog w = .ok (299, .agg #[h]) w := by kernel_rfl
theorem mImpl (h : Value) (w : World) : (Go.method 336 189 (.agg #[h]) "Implements").run Tryz.prog w = .ok (300, .agg #[h]) w := by kernel_rfl
theorem mAssign (h : Value) (w : World) : (Go.method 336 189 (.agg #[h]) "AssignableTo").run Tryz.prog w = .ok (297, .agg #[h]) w := by kernel_rfl
theorem kind87 (w : World) : ((ReflectliteType.abiMethod fun t => (fun a : Nat => Value.int IntKind.u8 (a : Int)) <$> Rtype.kind t) #[.pointer (some ⟨10, 87, none⟩)]).run Tryz.prog w = .ok (.int .u8 22) w := by kernel_rfl
theorem kind85 (w : World) : ((ReflectliteType.abiMethod fun t => (fun a : Nat => Value.int IntKind.u8 (a : Int)) <$> Rtype.kind t) #[.pointer (some ⟨10, 85, none⟩)]).run Tryz.prog w = .ok (.int .u8 25) w := by kernel_rfl
theorem rlm (z : Sem Value) (f : TypeId → Addr → Nat → Nat → Sem Value) (v : Value) :
  ReflectliteValue.method z f #[v] = (do match ← ReflectliteValue.parts v with | none => z | some (t, a, fl) => f t a fl (fl % 32)) := rfl
theorem parts87 (a : Addr) (w : World) : (ReflectliteValue.parts (.agg #[.pointer (some ⟨10, 87, none⟩), .pointer (some a), .int .u64 150])).run Tryz.prog w = .ok (some (87, a, 150)) w := by kernel_rfl
theorem isNil87 (a p : Addr) (W : World) (ha : W.cell? a = some (.pointer (some p))) :
  (ReflectliteValue.method (ReflectliteValue.valueError "reflectlite.Value.IsNil" 0) ReflectliteValue.isNil #[.agg #[.pointer (some ⟨10, 87, none⟩), .pointer (some a), .int .u64 150]]).run Tryz.prog W = .ok (.bool false) W := by
 rw [rlm]
 simp only [Sem.run_bind, parts87, Result.andThen]
 simp [ReflectliteValue.isNil, loadVar, isAgg, underlying, Tryz.underlying87, ha, Result.andThen]
theorem elem87 (w : World) : (ReflectliteType.method ReflectliteType.elem #[.agg #[.pointer (some ⟨10, 87, none⟩)]]).run Tryz.prog w = .ok (.iface 189 (.agg #[.pointer (some ⟨10, 85, none⟩)])) w := by kernel_rfl
theorem impl85 (w : World) : (ReflectliteType.relation "Implements" ReflectliteType.implements_ #[.agg #[.pointer (some ⟨10, 85, none⟩)], .iface 189 (.agg #[.pointer (some ⟨10, 81, none⟩)])]).run Tryz.prog w = .ok (.bool true) w := by kernel_rfl
theorem typeOf85 (v : Value) (w : World) : (ReflectliteType.typeOf #[.iface 85 v]).run Tryz.prog w = .ok (.iface 189 (.agg #[.pointer (some ⟨10, 85, none⟩)])) w := by kernel_rfl
theorem assign85 (w : World) : (ReflectliteType.relation "AssignableTo" ReflectliteType.assignableTo #[.agg #[.pointer (some ⟨10, 85, none⟩)], .iface 189 (.agg #[.pointer (some ⟨10, 85, none⟩)])]).run Tryz.prog w = .ok (.bool true) w := by kernel_rfl
theorem valueOf85 (x y : Int) (w : World) : (ReflectliteValue.unpack (.iface 85 (.agg #[.int .i64 x, .int .i64 y]))).run Tryz.prog w
  = .ok (.agg #[.pointer (some ⟨10, 85, none⟩), .pointer (some ⟨w.heap.size, 0, none⟩), .int .u64 153]) (w.alloc (.cells #[.int .i64 x, .int .i64 y] 85)) := by kernel_rfl
theorem elemOf87 (w : World) : (Rtype.elem? 87).run Tryz.prog w = .ok (some 85) w := by kernel_rfl
theorem mk85 (p : Addr) (w : World) : (ReflectliteValue.mk 85 p ReflectliteValue.flagAddr).run Tryz.prog w = .ok (.agg #[.pointer (some ⟨10, 85, none⟩), .pointer (some p), .int .u64 409]) w := by kernel_rfl
theorem elemV87 (a p : Addr) (W : World) (ha : W.cell? a = some (.pointer (some p))) :
  (ReflectliteValue.method (ReflectliteValue.valueError "reflectlite.Value.Elem" 0) ReflectliteValue.elem #[.agg #[.pointer (some ⟨10, 87, none⟩), .pointer (some a), .int .u64 150]]).run Tryz.prog W
   = .ok (.agg #[.pointer (some ⟨10, 85, none⟩), .pointer (some p), .int .u64 409]) W := by
 rw [rlm]
 simp only [Sem.run_bind, parts87, Result.andThen]
 simp [ReflectliteValue.elem, loadVar, isAgg, underlying, Tryz.underlying87, ha, Result.andThen, elemOf87, mk85]
theorem parts85a (a : Addr) (w : World) : (ReflectliteValue.parts (.agg #[.pointer (some ⟨10, 85, none⟩), .pointer (some a), .int .u64 409])).run Tryz.prog w = .ok (some (85, a, 409)) w := by kernel_rfl
theorem parts85 (a : Addr) (w : World) : (ReflectliteValue.parts (.agg #[.pointer (some ⟨10, 85, none⟩), .pointer (some a), .int .u64 153])).run Tryz.prog w = .ok (some (85, a, 153)) w := by kernel_rfl
theorem direct85 (w : World) : (Rtype.directlyAssignable 85 85).run Tryz.prog w = .ok true w := by kernel_rfl
theorem rls (v x : Value) : ReflectliteValue.set #[v, x] = (do
  let (some (dst, a, fl), some (src, b, _)) := (← ReflectliteValue.parts v, ← ReflectliteValue.parts x)
   | unsupported (.noEntry "extern/(internal/reflectlite.Value).Set.zeroValue")
  if fl / ReflectliteValue.flagAddr % 2 == 0 then unsupported (.noEntry "extern/(internal/reflectlite.Value).Set.unaddressable")
  let val ← loadVar src b
  if ← Rtype.directlyAssignable dst src then storeVar dst a val
  else if ← Rtype.implements dst src then
   if (← Rtype.kind src) == 20 then
    match val with
    | .nilIface => unsupported (.noEntry "extern/reflectlite: a nil value of one interface type handed on as a value of another")
    | _ => storeVar dst a val
   else storeVar dst a (.iface src val)
  else panicString ("reflectlite.Set: value of type " ++ (← Rtype.spelt src) ++ " is not assignable to type " ++ (← Rtype.spelt dst))
  pure (.tuple #[])) := rfl
theorem load85 (b : Nat) (x y : Int) (W : World) (h0 : W.cell? ⟨b, 0, none⟩ = some (.int .i64 x)) (h1 : W.cell? ⟨b, 1, none⟩ = some (.int .i64 y)) : (loadVar 85 ⟨b, 0, none⟩).run Tryz.prog W = .ok (.agg #[.int .i64 x, .int .i64 y]) W := by
 have hs : (sizeOf 85).run Tryz.prog W = .ok 2 W := Tryz.sizeOf85 W
 have ha : (isAgg 85).run Tryz.prog W = .ok true W := by kernel_rfl
 have hl := run_loadCells_list (P := Tryz.prog) (w := W) ⟨b, 0, none⟩ [.int .i64 x, .int .i64 y] (by
  intro j v hj
  rcases j with _ | _ | j
  ·rw [add_none, show v = .int .i64 x by simpa using hj.symm]; exact h0
  ·rw [add_none, show v = .int .i64 y by simpa using hj.symm]; exact h1
  ·simp at hj)
 unfold loadVar
 simp only [Sem.run_bind, ha, hs, Result.andThen, if_true]
 rw [show (2 : Nat) = [Value.int .i64 x, Value.int .i64 y].length from rfl, hl]
 rfl
theorem store85 (T : Nat) (x y : Int) (W : World) (h0 : ∃ v, W.cell? ⟨T, 0, none⟩ = some v) (h1 : ∃ v, W.cell? ⟨T, 1, none⟩ = some v) (f0 : W.frozen? ⟨T, 0, none⟩ = false) (f1 : W.frozen? ⟨T, 1, none⟩ = false) :
  (storeVar 85 ⟨T, 0, none⟩ (.agg #[.int .i64 x, .int .i64 y])).run Tryz.prog W = .ok () ((W.setCell ⟨T, 0, none⟩ (.int .i64 x)).setCell ⟨T, 1, none⟩ (.int .i64 y)) := by
 have hs : (sizeOf 85).run Tryz.prog W = .ok 2 W := Tryz.sizeOf85 W
 obtain ⟨v0, h0⟩ := h0
 obtain ⟨v1, h1⟩ := h1
 have g1 : (W.setCell ⟨T, 0, none⟩ (.int .i64 x)).cell? ⟨T, 1, none⟩ = some v1 := (World.cell?_setCell_other _ _ _ _ (fun e => by injection e with _ e; cases e)).trans h1
 have k1 : (W.setCell ⟨T, 0, none⟩ (.int .i64 x)).frozen? ⟨T, 1, none⟩ = false := by rw [World.frozen?_setCell]; exact f1
 unfold storeVar
 simp only [Sem.run_bind, hs, Result.andThen]
 simp [Value.cells, storeCells, Addr.add]
 rw [run_store Tryz.prog W _ _ _ (by rfl)]
 simp [h0, f0, Result.andThen]
 rw [run_store Tryz.prog _ _ _ _ (by rfl)]
 simp [g1, k1]
theorem set85 (T b : Nat) (x y : Int) (W : World) (hb0 : W.cell? ⟨b, 0, none⟩ = some (.int .i64 x)) (hb1 : W.cell? ⟨b, 1, none⟩ = some (.int .i64 y)) (h0 : ∃ v, W.cell? ⟨T, 0, none⟩ = some v) (h1 : ∃ v, W.cell? ⟨T, 1, none⟩ = some v) (f0 : W.frozen? ⟨T, 0, none⟩ = false) (f1 : W.frozen? ⟨T, 1, none⟩ = false) :
  (ReflectliteValue.set #[.agg #[.pointer (some ⟨10, 85, none⟩), .pointer (some ⟨T, 0, none⟩), .int .u64 409], .agg #[.pointer (some ⟨10, 85, none⟩), .pointer (some ⟨b, 0, none⟩), .int .u64 153]]).run Tryz.prog W
   = .ok (.tuple #[]) ((W.setCell ⟨T, 0, none⟩ (.int .i64 x)).setCell ⟨T, 1, none⟩ (.int .i64 y)) := by
 have hl := load85 b x y W hb0 hb1
 have hst := store85 T x y W h0 h1 f0 f1
 rw [rls]
 simp only [Sem.run_bind, parts85a, parts85, Result.andThen]
 simp [ReflectliteValue.flagAddr, hl, Result.andThen, direct85, hst]
end As
/-- The cell of errors' own type of errors. -/
def EType (w : World) : Prop := w.cell? ⟨0, 0, none⟩ = some (.iface 189 (.agg #[.pointer (some ⟨10, 81, none⟩)]))
theorem EType.below {w w' : World} (h : EType w) (hb : Below w.heap.size w w') : EType w' := (hb.cell (p := ⟨0, 0, none⟩) (lt_block h)).trans h
open As in
set_option maxRecDepth 100000 in
set_option maxHeartbeats 4000000 in
theorem as_hit (T : Nat) (x y : Int) (w : World) (hg : EType w) (h0 : ∃ v, w.cell? ⟨T, 0, none⟩ = some v) (h1 : ∃ v, w.cell? ⟨T, 1, none⟩ = some v) (f0 : w.frozen? ⟨T, 0, none⟩ = false) (f1 : w.frozen? ⟨T, 1, none⟩ = false) :
  Calls Tryz.prog 38 #[.iface 85 (.agg #[.int .i64 x, .int .i64 y]), .iface 87 (.pointer (some ⟨T, 0, none⟩))] w fun e w' => e = .returned (.bool true) ∧ ∃ wA, Below w.heap.size w wA ∧ w' = (wA.setCell ⟨T, 0, none⟩ (.int .i64 x)).setCell ⟨T, 1, none⟩ (.int .i64 y) := by
 have h85 := @run_callFunc_extern Tryz.prog 85 _ (fun args => ReflectliteValue.unpack (args.getD 0 (.tuple #[]))) Tryz.func85 (by kernel_rfl) (by kernel_rfl) (by kernel_rfl) (by kernel_rfl)
 have h86 := @run_callFunc_extern Tryz.prog 86 _ (ReflectliteValue.methodAny (ReflectliteValue.valueError "reflectlite.Value.Type" 0) (fun t _ _ _ => ReflectliteType.toType t)) Tryz.func86 (by kernel_rfl) (by kernel_rfl) (by kernel_rfl) (by kernel_rfl)
 have h87 := @run_callFunc_extern Tryz.prog 87 _ (ReflectliteValue.method (ReflectliteValue.valueError "reflectlite.Value.IsNil" 0) ReflectliteValue.isNil) Tryz.func87 (by kernel_rfl) (by kernel_rfl) (by kernel_rfl) (by kernel_rfl)
 have h286 := @run_callFunc_extern Tryz.prog 286 _ (ReflectliteType.abiMethod fun t => do pure (.int .u8 (← Rtype.kind t))) Tryz.func286 (by kernel_rfl) (by kernel_rfl) (by kernel_rfl) (by kernel_rfl)
 have h299 := @run_callFunc_extern Tryz.prog 299 _ (ReflectliteType.method ReflectliteType.elem) Tryz.func299 (by kernel_rfl) (by kernel_rfl) (by kernel_rfl) (by kernel_rfl)
 have h300 := @run_callFunc_extern Tryz.prog 300 _ (ReflectliteType.relation "Implements" ReflectliteType.implements_) Tryz.func300 (by kernel_rfl) (by kernel_rfl) (by kernel_rfl) (by kernel_rfl)
 have h137 := @run_callFunc_extern Tryz.prog 137 _ ReflectliteType.typeOf Tryz.func137 (by kernel_rfl) (by kernel_rfl) (by kernel_rfl) (by kernel_rfl)
 have h297 := @run_callFunc_extern Tryz.prog 297 _ (ReflectliteType.relation "AssignableTo" ReflectliteType.assignableTo) Tryz.func297 (by kernel_rfl) (by kernel_rfl) (by kernel_rfl) (by kernel_rfl)
 have h138 := @run_callFunc_extern Tryz.prog 138 _ (ReflectliteValue.method (ReflectliteValue.valueError "reflectlite.Value.Elem" 0) ReflectliteValue.elem) Tryz.func138 (by kernel_rfl) (by kernel_rfl) (by kernel_rfl) (by kernel_rfl)
 have h139 := @run_callFunc_extern Tryz.prog 139 _ ReflectliteValue.set Tryz.func139 (by kernel_rfl) (by kernel_rfl) (by kernel_rfl) (by kernel_rfl)
 have tO := typeOf85
 have mA := mAssign
 have a85 := assign85
 have v85 := valueOf85
 have f87 := valueOf87
 have t87 := type87
 have mK := mKind
 have mE := mElem
 have mI := mImpl
 have k87 := kind87
 have k85 := kind85
 have e87 := elem87
 have i85 := impl85
 obtain ⟨wa, hwa⟩ : ∃ wa, w.alloc (.cells #[.pointer (some ⟨T, 0, none⟩)] 87) = wa := ⟨_, rfl⟩
 obtain ⟨wb, hwb⟩ : ∃ wb, wa.alloc (.cells #[.pointer (some ⟨10, 87, none⟩), .pointer (some ⟨w.heap.size, 0, none⟩), .int .u64 150] 141) = wb := ⟨_, rfl⟩
 obtain ⟨wc, hwc⟩ : ∃ wc, wb.alloc (.cells #[.pointer (some ⟨10, 87, none⟩), .pointer (some ⟨w.heap.size, 0, none⟩), .int .u64 150] 141) = wc := ⟨_, rfl⟩
 obtain ⟨wd, hwd⟩ : ∃ wd, wc.alloc (.cells #[.int .i64 x, .int .i64 y] 85) = wd := ⟨_, rfl⟩
 have hba : Below w.heap.size w wa := by rw [← hwa]; exact (Below.refl _ _).alloc (Nat.le_refl _) _
 have hbb : Below w.heap.size w wb := by rw [← hwb]; exact hba.alloc hba.size _
 have hbc : Below w.heap.size w wc := by rw [← hwc]; exact hbb.alloc hbb.size _
 have hbd : Below w.heap.size w wd := by rw [← hwd]; exact hbc.alloc hbc.size _
 have pa : wa.cell? ⟨w.heap.size, 0, none⟩ = some (.pointer (some ⟨T, 0, none⟩)) := by rw [← hwa, World.cell?_alloc_at _ _ _ _ rfl]; rfl
 have hla : w.heap.size < wa.heap.size := by rw [← hwa]; simp
 have hlb : wa.heap.size < wb.heap.size := by rw [← hwb]; simp
 have pb : wb.cell? ⟨w.heap.size, 0, none⟩ = some (.pointer (some ⟨T, 0, none⟩)) := by rw [← hwb, World.cell?_alloc_lt _ _ _ hla]; exact pa
 have pc : wc.cell? ⟨w.heap.size, 0, none⟩ = some (.pointer (some ⟨T, 0, none⟩)) := by rw [← hwc, World.cell?_alloc_lt _ _ _ (Nat.lt_trans hla hlb)]; exact pb
 have n87 := isNil87 ⟨w.heap.size, 0, none⟩ ⟨T, 0, none⟩ wb pb
 have hg2 : wb.cell? ⟨0, 0, none⟩ = some (.iface 189 (.agg #[.pointer (some ⟨10, 81, none⟩)])) := hg.below hbb
 have el := elemV87 ⟨w.heap.size, 0, none⟩ ⟨T, 0, none⟩ wc pc
 have hT : T < w.heap.size := by obtain ⟨v, h0⟩ := h0; exact lt_block h0
 obtain ⟨d0, d1⟩ : wd.cell? ⟨wc.heap.size, 0, none⟩ = some (.int .i64 x) ∧ wd.cell? ⟨wc.heap.size, 1, none⟩ = some (.int .i64 y) := by
  rw [← hwd]; constructor <;> (rw [World.cell?_alloc_at _ _ _ _ rfl]; rfl)
 have st := set85 T wc.heap.size x y wd d0 d1 (by obtain ⟨v, h0⟩ := h0; exact ⟨v, (hbd.cell (p := ⟨T, 0, none⟩) hT).trans h0⟩) (by obtain ⟨v, h1⟩ := h1; exact ⟨v, (hbd.cell (p := ⟨T, 1, none⟩) hT).trans h1⟩) ((hbd.frozen (p := ⟨T, 0, none⟩) hT).trans f0) ((hbd.frozen (p := ⟨T, 1, none⟩) hT).trans f1)
 obtain ⟨u0, u1, u2⟩ : wb.cell? ⟨wa.heap.size, 0, none⟩ = some (.pointer (some ⟨10, 87, none⟩)) ∧ wb.cell? ⟨wa.heap.size, 1, none⟩ = some (.pointer (some ⟨w.heap.size, 0, none⟩)) ∧ wb.cell? ⟨wa.heap.size, 2, none⟩ = some (.int .u64 150) := by rw [← hwb]; exact tri_at wa _ _ _ 141 _ rfl
 obtain ⟨z0, z1, z2⟩ : wc.cell? ⟨wb.heap.size, 0, none⟩ = some (.pointer (some ⟨10, 87, none⟩)) ∧ wc.cell? ⟨wb.heap.size, 1, none⟩ = some (.pointer (some ⟨w.heap.size, 0, none⟩)) ∧ wc.cell? ⟨wb.heap.size, 2, none⟩ = some (.int .u64 150) := by rw [← hwc]; exact tri_at wb _ _ _ 141 _ rfl
 have HBD := Lib.hid hbd
 clear hba hbb hbc hbd hla hlb hT pa pb pc h0 h1 f0 f1 hg
 go_enter Tryz.func38, Tryz.ntmps38
 go_wp2
 refine wp_loop_rounds 1 ?_
 rw [rounds_succ]
 go_wp2
 go_ret
 exact ⟨rfl, wd, HBD.out, rfl⟩
end Go.Proofs.YtpdedfpacklnoaaGreatDoor
namespace Go.Proofs.YtpdedfpacklnoaaGreatDoor
open Go.RowKit Go.BL Go.Ct Go.Sl

/-- The end of Route. -/
def RteR (o : Except Nat Ask) (w : World) (e : Ending) (w' : World) : Prop := Below w.heap.size w w' ∧
 ((∃ a v, o = .ok a ∧ e = .returned (.tuple #[v, .int .i64 0]) ∧ AskO w' w.heap.size v a) ∨
  (∃ c : Nat, o = .error c ∧ e = .returned (.tuple #[.agg #[.int .i64 0, .int .i64 0, .string ⟨#[]⟩, .string ⟨#[]⟩, .int .i64 0, .int .u64 0, .slice none 0 0, .slice none 0 0, .slice none 0 0], .int .i64 (c : Int)])))
set_option maxHeartbeats 16000000 in
set_option maxRecDepth 100000 in
theorem Route_any (q : Rq) (h : Value) (id : Int) (X : Except Nat Ask) (w : World) (hv : ∃ A n c, h = .slice A n c) (hg : EType w) (hrt : ∀ w1, Below w.heap.size w w1 → Calls Tryz.prog 37 #[rqV q h, .int .i64 id] w1 (RouR X w1)) :
  Calls Tryz.prog 11 #[rqV q h, .int .i64 id] w (RteR X w) := by
 obtain ⟨m, p, hs, b⟩ := q
 obtain ⟨A, n, ac, rfl⟩ := hv
 dsimp only [rqV] at *
 obtain ⟨w0, hw0⟩ : ∃ w0, w.alloc (.cells #[.string ⟨m.toArray⟩, .string ⟨p.toArray⟩, .slice A n ac, .string ⟨b.toArray⟩] 24) = w0 := ⟨_, rfl⟩
 obtain ⟨w1, hw1⟩ : ∃ w1, w0.alloc (.cells #[.int .i64 0, .int .i64 0, .string ⟨#[]⟩, .string ⟨#[]⟩, .int .i64 0, .int .u64 0, .slice none 0 0, .slice none 0 0, .slice none 0 0] 34) = w1 := ⟨_, rfl⟩
 have HL0 : Hid (w.heap.size < w0.heap.size) := Lib.hid (by rw [← hw0]; simp)
 have HL1 : Hid (w0.heap.size < w1.heap.size) := Lib.hid (by rw [← hw1]; simp)
 have HB1 : Hid (Below w.heap.size w w1) := Lib.hid (by rw [← hw1, ← hw0]; exact ((Below.refl _ _).alloc (Nat.le_refl _) _).alloc (by simp) _)
 have HG := Lib.hid hg
 have HC := Lib.hid (hrt w1 HB1.out)
 have HR1 : Hid (Bk w1 w0.heap.size [.int .i64 0, .int .i64 0, .string ⟨#[]⟩, .string ⟨#[]⟩, .int .i64 0, .int .u64 0, .slice none 0 0, .slice none 0 0, .slice none 0 0]) := Lib.hid (by rw [← hw1]; exact Bk.new w0 _ 34 rfl)
 have HQ1 : Hid (Bk w1 w.heap.size [.string ⟨m.toArray⟩, .string ⟨p.toArray⟩, .slice A n ac, .string ⟨b.toArray⟩]) := Lib.hid (by
  have h0 : Bk w0 w.heap.size [.string ⟨m.toArray⟩, .string ⟨p.toArray⟩, .slice A n ac, .string ⟨b.toArray⟩] := by rw [← hw0]; exact Bk.new w _ 24 rfl
  rw [← hw1]
  exact h0.alloc _ HL0.out)
 have k0 := (HQ1.out 0 _ rfl).1
 have k1 := (HQ1.out 1 _ rfl).1
 have k2 := (HQ1.out 2 _ rfl).1
 have k3 := (HQ1.out 3 _ rfl).1
 clear hg hrt
 go_enter Tryz.func11, Tryz.ntmps11
 go_wp2_with fail
 clear hw0 hw1 k0 k1 k2 k3
 go_at_call 37
 refine HC.out.mono ?_
 rintro e w2 ⟨hb2, (⟨a, v, hX, rfl, e', mv, cv, rfl, o1, o2, o3⟩ | ⟨c, i, k, q, pr, s, t, A1, A2, A3, n1, n2, n3, c1, c2, c3, hX, rfl⟩)⟩
 ·obtain ⟨Ae, ne, ce, rfl⟩ : ∃ A n c, e' = .slice A n c := by obtain ⟨A, c, h⟩ := o1.form; exact ⟨A, _, c, h⟩
  obtain ⟨Am, nm, cm, rfl⟩ : ∃ A n c, mv = .slice A n c := by obtain ⟨A, c, h⟩ := o2.form; exact ⟨A, _, c, h⟩
  obtain ⟨Ac, nc, cc, rfl⟩ : ∃ A n c, cv = .slice A n c := by obtain ⟨A, c, h⟩ := o3.form; exact ⟨A, _, c, h⟩
  have HB2 := Lib.hid (HB1.out.trans (hb2.mono HB1.out.size))
  have HR2 := Lib.hid (HR1.out.below hb2 HL1.out)
  have HS2 := Lib.hid (Nat.lt_of_lt_of_le HL1.out hb2.size)
  obtain ⟨w3, hw3⟩ : ∃ w3, w2.alloc (.cells #[.int .i64 a.id, .int .i64 (a.kind : Int), .string ⟨a.key.toArray⟩, .string ⟨a.item.toArray⟩, .int .i64 (a.qty : Int), .int .u64 (a.price : Int), .slice Ae ne ce, .slice Am nm cm, .slice Ac nc cc] 34) = w3 := ⟨_, rfl⟩
  obtain ⟨w4, hw4⟩ : ∃ w4, w3.alloc (.cells #[.int .i64 0, .int .i64 0] 85) = w4 := ⟨_, rfl⟩
  have HL3 : Hid (w2.heap.size < w3.heap.size) := Lib.hid (by rw [← hw3]; simp)
  have HL4 : Hid (w3.heap.size < w4.heap.size) := Lib.hid (by rw [← hw4]; simp)
  have hb4 : Below w2.heap.size w2 w4 := by rw [← hw4, ← hw3]; exact ((Below.refl _ _).alloc (Nat.le_refl _) _).alloc (by simp) _
  have HB4 := Lib.hid (HB2.out.trans (hb4.mono HB2.out.size))
  have HR4 := Lib.hid (HR2.out.below hb4 HS2.out)
  have HA4 : Hid (Bk w4 w2.heap.size [.int .i64 a.id, .int .i64 (a.kind : Int), .string ⟨a.key.toArray⟩, .string ⟨a.item.toArray⟩, .int .i64 (a.qty : Int), .int .u64 (a.price : Int), .slice Ae ne ce, .slice Am nm cm, .slice Ac nc cc]) := Lib.hid (by
   have h0 : Bk w3 w2.heap.size [.int .i64 a.id, .int .i64 (a.kind : Int), .string ⟨a.key.toArray⟩, .string ⟨a.item.toArray⟩, .int .i64 (a.qty : Int), .int .u64 (a.price : Int), .slice Ae ne ce, .slice Am nm cm, .slice Ac nc cc] := by rw [← hw3]; exact Bk.new w2 _ 34 rfl
   rw [← hw4]
   exact h0.alloc _ HL3.out)
  have HF4 : Hid (Bk w4 w3.heap.size [.int .i64 0, .int .i64 0]) := Lib.hid (by rw [← hw4]; exact Bk.new w3 _ 85 rfl)
  have O1 := Lib.hid (own_sets (C := w0.heap.size) HL1.out [.int .i64 a.id, .int .i64 (a.kind : Int), .string ⟨a.key.toArray⟩, .string ⟨a.item.toArray⟩, .int .i64 (a.qty : Int), .int .u64 (a.price : Int), .slice Ae ne ce, .slice Am nm cm, .slice Ac nc cc] 0 (o1.below hb4 (Nat.le_refl _)))
  have O2 := Lib.hid (own_sets (C := w0.heap.size) HL1.out [.int .i64 a.id, .int .i64 (a.kind : Int), .string ⟨a.key.toArray⟩, .string ⟨a.item.toArray⟩, .int .i64 (a.qty : Int), .int .u64 (a.price : Int), .slice Ae ne ce, .slice Am nm cm, .slice Ac nc cc] 0 (o2.below hb4 (Nat.le_refl _)))
  have O3 := Lib.hid (own_sets (C := w0.heap.size) HL1.out [.int .i64 a.id, .int .i64 (a.kind : Int), .string ⟨a.key.toArray⟩, .string ⟨a.item.toArray⟩, .int .i64 (a.qty : Int), .int .u64 (a.price : Int), .slice Ae ne ce, .slice Am nm cm, .slice Ac nc cc] 0 (o3.below hb4 (Nat.le_refl _)))
  have HXX := Lib.hid hX
  have s0 := (HA4.out 0 _ rfl).1
  have g0 := (HR4.out 0 _ rfl).1
  have f0 := (HR4.out 0 _ rfl).2
  have s1 := (HA4.out 1 _ rfl).1
  have g1 := (HR4.out 1 _ rfl).1
  have f1 := (HR4.out 1 _ rfl).2
  have s2 := (HA4.out 2 _ rfl).1
  have g2 := (HR4.out 2 _ rfl).1
  have f2 := (HR4.out 2 _ rfl).2
  have s3 := (HA4.out 3 _ rfl).1
  have g3 := (HR4.out 3 _ rfl).1
  have f3 := (HR4.out 3 _ rfl).2
  have s4 := (HA4.out 4 _ rfl).1
  have g4 := (HR4.out 4 _ rfl).1
  have f4 := (HR4.out 4 _ rfl).2
  have s5 := (HA4.out 5 _ rfl).1
  have g5 := (HR4.out 5 _ rfl).1
  have f5 := (HR4.out 5 _ rfl).2
  have s6 := (HA4.out 6 _ rfl).1
  have g6 := (HR4.out 6 _ rfl).1
  have f6 := (HR4.out 6 _ rfl).2
  have s7 := (HA4.out 7 _ rfl).1
  have g7 := (HR4.out 7 _ rfl).1
  have f7 := (HR4.out 7 _ rfl).2
  have s8 := (HA4.out 8 _ rfl).1
  have g8 := (HR4.out 8 _ rfl).1
  have f8 := (HR4.out 8 _ rfl).2
  have HR9 := Lib.hid (Bk.sets [.int .i64 a.id, .int .i64 (a.kind : Int), .string ⟨a.key.toArray⟩, .string ⟨a.item.toArray⟩, .int .i64 (a.qty : Int), .int .u64 (a.price : Int), .slice Ae ne ce, .slice Am nm cm, .slice Ac nc cc] 0 HR4.out)
  have HB9 := Lib.hid (below_sets (Nat.le_of_lt HL0.out) [.int .i64 a.id, .int .i64 (a.kind : Int), .string ⟨a.key.toArray⟩, .string ⟨a.item.toArray⟩, .int .i64 (a.qty : Int), .int .u64 (a.price : Int), .slice Ae ne ce, .slice Am nm cm, .slice Ac nc cc] 0 HB4.out)
  have c0 : ((((((((((w4.setCell ⟨w0.heap.size, 0, none⟩ (.int .i64 a.id)).setCell ⟨w0.heap.size, 1, none⟩ (.int .i64 (a.kind : Int))).setCell ⟨w0.heap.size, 2, none⟩ (.string ⟨a.key.toArray⟩)).setCell ⟨w0.heap.size, 3, none⟩ (.string ⟨a.item.toArray⟩)).setCell ⟨w0.heap.size, 4, none⟩ (.int .i64 (a.qty : Int))).setCell ⟨w0.heap.size, 5, none⟩ (.int .u64 (a.price : Int))).setCell ⟨w0.heap.size, 6, none⟩ (.slice Ae ne ce)).setCell ⟨w0.heap.size, 7, none⟩ (.slice Am nm cm)).setCell ⟨w0.heap.size, 8, none⟩ (.slice Ac nc cc))).cell? ⟨w0.heap.size, 0, none⟩ = some (.int .i64 a.id) := (HR9.out 0 _ rfl).1
  have c1 : ((((((((((w4.setCell ⟨w0.heap.size, 0, none⟩ (.int .i64 a.id)).setCell ⟨w0.heap.size, 1, none⟩ (.int .i64 (a.kind : Int))).setCell ⟨w0.heap.size, 2, none⟩ (.string ⟨a.key.toArray⟩)).setCell ⟨w0.heap.size, 3, none⟩ (.string ⟨a.item.toArray⟩)).setCell ⟨w0.heap.size, 4, none⟩ (.int .i64 (a.qty : Int))).setCell ⟨w0.heap.size, 5, none⟩ (.int .u64 (a.price : Int))).setCell ⟨w0.heap.size, 6, none⟩ (.slice Ae ne ce)).setCell ⟨w0.heap.size, 7, none⟩ (.slice Am nm cm)).setCell ⟨w0.heap.size, 8, none⟩ (.slice Ac nc cc))).cell? ⟨w0.heap.size, 1, none⟩ = some (.int .i64 (a.kind : Int)) := (HR9.out 1 _ rfl).1
  have c2 : ((((((((((w4.setCell ⟨w0.heap.size, 0, none⟩ (.int .i64 a.id)).setCell ⟨w0.heap.size, 1, none⟩ (.int .i64 (a.kind : Int))).setCell ⟨w0.heap.size, 2, none⟩ (.string ⟨a.key.toArray⟩)).setCell ⟨w0.heap.size, 3, none⟩ (.string ⟨a.item.toArray⟩)).setCell ⟨w0.heap.size, 4, none⟩ (.int .i64 (a.qty : Int))).setCell ⟨w0.heap.size, 5, none⟩ (.int .u64 (a.price : Int))).setCell ⟨w0.heap.size, 6, none⟩ (.slice Ae ne ce)).setCell ⟨w0.heap.size, 7, none⟩ (.slice Am nm cm)).setCell ⟨w0.heap.size, 8, none⟩ (.slice Ac nc cc))).cell? ⟨w0.heap.size, 2, none⟩ = some (.string ⟨a.key.toArray⟩) := (HR9.out 2 _ rfl).1
  have c3 : ((((((((((w4.setCell ⟨w0.heap.size, 0, none⟩ (.int .i64 a.id)).setCell ⟨w0.heap.size, 1, none⟩ (.int .i64 (a.kind : Int))).setCell ⟨w0.heap.size, 2, none⟩ (.string ⟨a.key.toArray⟩)).setCell ⟨w0.heap.size, 3, none⟩ (.string ⟨a.item.toArray⟩)).setCell ⟨w0.heap.size, 4, none⟩ (.int .i64 (a.qty : Int))).setCell ⟨w0.heap.size, 5, none⟩ (.int .u64 (a.price : Int))).setCell ⟨w0.heap.size, 6, none⟩ (.slice Ae ne ce)).setCell ⟨w0.heap.size, 7, none⟩ (.slice Am nm cm)).setCell ⟨w0.heap.size, 8, none⟩ (.slice Ac nc cc))).cell? ⟨w0.heap.size, 3, none⟩ = some (.string ⟨a.item.toArray⟩) := (HR9.out 3 _ rfl).1
  have c4 : ((((((((((w4.setCell ⟨w0.heap.size, 0, none⟩ (.int .i64 a.id)).setCell ⟨w0.heap.size, 1, none⟩ (.int .i64 (a.kind : Int))).setCell ⟨w0.heap.size, 2, none⟩ (.string ⟨a.key.toArray⟩)).setCell ⟨w0.heap.size, 3, none⟩ (.string ⟨a.item.toArray⟩)).setCell ⟨w0.heap.size, 4, none⟩ (.int .i64 (a.qty : Int))).setCell ⟨w0.heap.size, 5, none⟩ (.int .u64 (a.price : Int))).setCell ⟨w0.heap.size, 6, none⟩ (.slice Ae ne ce)).setCell ⟨w0.heap.size, 7, none⟩ (.slice Am nm cm)).setCell ⟨w0.heap.size, 8, none⟩ (.slice Ac nc cc))).cell? ⟨w0.heap.size, 4, none⟩ = some (.int .i64 (a.qty : Int)) := (HR9.out 4 _ rfl).1
  have c5 : ((((((((((w4.setCell ⟨w0.heap.size, 0, none⟩ (.int .i64 a.id)).setCell ⟨w0.heap.size, 1, none⟩ (.int .i64 (a.kind : Int))).setCell ⟨w0.heap.size, 2, none⟩ (.string ⟨a.key.toArray⟩)).setCell ⟨w0.heap.size, 3, none⟩ (.string ⟨a.item.toArray⟩)).setCell ⟨w0.heap.size, 4, none⟩ (.int .i64 (a.qty : Int))).setCell ⟨w0.heap.size, 5, none⟩ (.int .u64 (a.price : Int))).setCell ⟨w0.heap.size, 6, none⟩ (.slice Ae ne ce)).setCell ⟨w0.heap.size, 7, none⟩ (.slice Am nm cm)).setCell ⟨w0.heap.size, 8, none⟩ (.slice Ac nc cc))).cell? ⟨w0.heap.size, 5, none⟩ = some (.int .u64 (a.price : Int)) := (HR9.out 5 _ rfl).1
  have c6 : ((((((((((w4.setCell ⟨w0.heap.size, 0, none⟩ (.int .i64 a.id)).setCell ⟨w0.heap.size, 1, none⟩ (.int .i64 (a.kind : Int))).setCell ⟨w0.heap.size, 2, none⟩ (.string ⟨a.key.toArray⟩)).setCell ⟨w0.heap.size, 3, none⟩ (.string ⟨a.item.toArray⟩)).setCell ⟨w0.heap.size, 4, none⟩ (.int .i64 (a.qty : Int))).setCell ⟨w0.heap.size, 5, none⟩ (.int .u64 (a.price : Int))).setCell ⟨w0.heap.size, 6, none⟩ (.slice Ae ne ce)).setCell ⟨w0.heap.size, 7, none⟩ (.slice Am nm cm)).setCell ⟨w0.heap.size, 8, none⟩ (.slice Ac nc cc))).cell? ⟨w0.heap.size, 6, none⟩ = some (.slice Ae ne ce) := (HR9.out 6 _ rfl).1
  have c7 : ((((((((((w4.setCell ⟨w0.heap.size, 0, none⟩ (.int .i64 a.id)).setCell ⟨w0.heap.size, 1, none⟩ (.int .i64 (a.kind : Int))).setCell ⟨w0.heap.size, 2, none⟩ (.string ⟨a.key.toArray⟩)).setCell ⟨w0.heap.size, 3, none⟩ (.string ⟨a.item.toArray⟩)).setCell ⟨w0.heap.size, 4, none⟩ (.int .i64 (a.qty : Int))).setCell ⟨w0.heap.size, 5, none⟩ (.int .u64 (a.price : Int))).setCell ⟨w0.heap.size, 6, none⟩ (.slice Ae ne ce)).setCell ⟨w0.heap.size, 7, none⟩ (.slice Am nm cm)).setCell ⟨w0.heap.size, 8, none⟩ (.slice Ac nc cc))).cell? ⟨w0.heap.size, 7, none⟩ = some (.slice Am nm cm) := (HR9.out 7 _ rfl).1
  have c8 : ((((((((((w4.setCell ⟨w0.heap.size, 0, none⟩ (.int .i64 a.id)).setCell ⟨w0.heap.size, 1, none⟩ (.int .i64 (a.kind : Int))).setCell ⟨w0.heap.size, 2, none⟩ (.string ⟨a.key.toArray⟩)).setCell ⟨w0.heap.size, 3, none⟩ (.string ⟨a.item.toArray⟩)).setCell ⟨w0.heap.size, 4, none⟩ (.int .i64 (a.qty : Int))).setCell ⟨w0.heap.size, 5, none⟩ (.int .u64 (a.price : Int))).setCell ⟨w0.heap.size, 6, none⟩ (.slice Ae ne ce)).setCell ⟨w0.heap.size, 7, none⟩ (.slice Am nm cm)).setCell ⟨w0.heap.size, 8, none⟩ (.slice Ac nc cc))).cell? ⟨w0.heap.size, 8, none⟩ = some (.slice Ac nc cc) := (HR9.out 8 _ rfl).1
  have HW4 := Lib.hid hw4
  clear hb2 hb4 hX o1 o2 o3 hw4
  go_wp2_with fail
  rw [HW4.out]
  go_at_call 38
  refine (as_nil _ _).mono ?_
  rintro e w' ⟨rfl, rfl⟩
  clear hw3
  go_wp2_with fail
  refine bodyPost_ret (v := .tuple #[.agg #[.int .i64 a.id, .int .i64 (a.kind : Int), .string ⟨a.key.toArray⟩, .string ⟨a.item.toArray⟩, .int .i64 (a.qty : Int), .int .u64 (a.price : Int), .slice Ae ne ce, .slice Am nm cm, .slice Ac nc cc], .int .i64 0]) (by simp [results, Tryz.results11, go_sem, c0, c1, c2, c3, c4, c5, c6, c7, c8]; try rfl) rfl ?_
  exact ⟨HB9.out, .inl ⟨a, _, HXX.out, rfl, _, _, _, rfl, O1.out.base (Nat.le_of_lt (Nat.lt_trans HL0.out HL1.out)), O2.out.base (Nat.le_of_lt (Nat.lt_trans HL0.out HL1.out)), O3.out.base (Nat.le_of_lt (Nat.lt_trans HL0.out HL1.out))⟩⟩
 ·have HB2 := Lib.hid (HB1.out.trans (hb2.mono HB1.out.size))
  have HR2 := Lib.hid (HR1.out.below hb2 HL1.out)
  have HS2 := Lib.hid (Nat.lt_of_lt_of_le HL1.out hb2.size)
  obtain ⟨w3, hw3⟩ : ∃ w3, w2.alloc (.cells #[.int .i64 i, .int .i64 k, .string s, .string t, .int .i64 q, .int .u64 pr, .slice A1 n1 c1, .slice A2 n2 c2, .slice A3 n3 c3] 34) = w3 := ⟨_, rfl⟩
  obtain ⟨w4, hw4⟩ : ∃ w4, w3.alloc (.cells #[.int .i64 0, .int .i64 0] 85) = w4 := ⟨_, rfl⟩
  have HL3 : Hid (w2.heap.size < w3.heap.size) := Lib.hid (by rw [← hw3]; simp)
  have HL4 : Hid (w3.heap.size < w4.heap.size) := Lib.hid (by rw [← hw4]; simp)
  have hb4 : Below w2.heap.size w2 w4 := by rw [← hw4, ← hw3]; exact ((Below.refl _ _).alloc (Nat.le_refl _) _).alloc (by simp) _
  have HB4 := Lib.hid (HB2.out.trans (hb4.mono HB2.out.size))
  have HR4 := Lib.hid (HR2.out.below hb4 HS2.out)
  have HA4 : Hid (Bk w4 w2.heap.size [.int .i64 i, .int .i64 k, .string s, .string t, .int .i64 q, .int .u64 pr, .slice A1 n1 c1, .slice A2 n2 c2, .slice A3 n3 c3]) := Lib.hid (by
   have h0 : Bk w3 w2.heap.size [.int .i64 i, .int .i64 k, .string s, .string t, .int .i64 q, .int .u64 pr, .slice A1 n1 c1, .slice A2 n2 c2, .slice A3 n3 c3] := by rw [← hw3]; exact Bk.new w2 _ 34 rfl
   rw [← hw4]
   exact h0.alloc _ HL3.out)
  have HF4 : Hid (Bk w4 w3.heap.size [.int .i64 0, .int .i64 0]) := Lib.hid (by rw [← hw4]; exact Bk.new w3 _ 85 rfl)
  have HXX := Lib.hid hX
  have hah := as_hit w3.heap.size (c : Int) 240 w4 (HG.out.below HB4.out) ⟨_, (HF4.out 0 _ rfl).1⟩ ⟨_, (HF4.out 1 _ rfl).1⟩ (HF4.out 0 _ rfl).2 (HF4.out 1 _ rfl).2
  have HW4 := Lib.hid hw4
  clear hb2 hb4 hX hw4
  go_wp2_with fail
  rw [HW4.out]
  go_at_call 38
  refine hah.mono ?_
  clear hah
  rintro e w' ⟨rfl, wA, hbA, rfl⟩
  clear hw3
  have LF : w0.heap.size < w3.heap.size := Nat.lt_trans HS2.out HL3.out
  have hB5' := (HB4.out.trans (hbA.mono HB4.out.size))
  have hB5 := (hB5'.setCell (p := ⟨w3.heap.size, 0, none⟩) (Nat.le_trans HB2.out.size (Nat.le_of_lt HL3.out)) (.int .i64 (c : Int))).setCell (p := ⟨w3.heap.size, 1, none⟩) (Nat.le_trans HB2.out.size (Nat.le_of_lt HL3.out)) (.int .i64 240)
  have hR5 := ((HR4.out.below hbA (Nat.lt_trans LF HL4.out)).other (p := ⟨w3.heap.size, 0, none⟩) (Nat.ne_of_gt LF) (.int .i64 (c : Int))).other (p := ⟨w3.heap.size, 1, none⟩) (Nat.ne_of_gt LF) (.int .i64 240)
  have hF5 := ((HF4.out.below hbA HL4.out).set 0 (.int .i64 (c : Int))).set 1 (.int .i64 240)
  obtain ⟨w5, hw5⟩ : ∃ w5, (wA.setCell ⟨w3.heap.size, 0, none⟩ (.int .i64 (c : Int))).setCell ⟨w3.heap.size, 1, none⟩ (.int .i64 240) = w5 := ⟨_, rfl⟩
  rw [hw5] at hB5 hR5 hF5 ⊢
  have HB5 := Lib.hid hB5
  have HR5 := Lib.hid hR5
  have HF5 := Lib.hid hF5
  have HNE : Hid (w0.heap.size ≠ w3.heap.size) := Lib.hid (Nat.ne_of_lt LF)
  clear hw5 hB5 hR5 hF5 hB5' hbA LF
  have s0 := (HF5.out 0 _ rfl).1
  have g0 := (HR5.out 0 _ rfl).1
  have f0 := (HR5.out 0 _ rfl).2
  have g1 := (HR5.out 1 _ rfl).1
  have f1 := (HR5.out 1 _ rfl).2
  have g2 := (HR5.out 2 _ rfl).1
  have f2 := (HR5.out 2 _ rfl).2
  have g3 := (HR5.out 3 _ rfl).1
  have f3 := (HR5.out 3 _ rfl).2
  have g4 := (HR5.out 4 _ rfl).1
  have f4 := (HR5.out 4 _ rfl).2
  have g5 := (HR5.out 5 _ rfl).1
  have f5 := (HR5.out 5 _ rfl).2
  have g6 := (HR5.out 6 _ rfl).1
  have f6 := (HR5.out 6 _ rfl).2
  have g7 := (HR5.out 7 _ rfl).1
  have f7 := (HR5.out 7 _ rfl).2
  have g8 := (HR5.out 8 _ rfl).1
  have f8 := (HR5.out 8 _ rfl).2
  have HQ9 := Lib.hid (Bk.sets_other HNE.out [.int .i64 0, .int .i64 0, .string ⟨#[]⟩, .string ⟨#[]⟩, .int .i64 0, .int .u64 0, .slice none 0 0, .slice none 0 0, .slice none 0 0] 0 HF5.out)
  have HR9 := Lib.hid (Bk.sets [.int .i64 0, .int .i64 0, .string ⟨#[]⟩, .string ⟨#[]⟩, .int .i64 0, .int .u64 0, .slice none 0 0, .slice none 0 0, .slice none 0 0] 0 HR5.out)
  have HB9 := Lib.hid (below_sets (Nat.le_of_lt HL0.out) [.int .i64 0, .int .i64 0, .string ⟨#[]⟩, .string ⟨#[]⟩, .int .i64 0, .int .u64 0, .slice none 0 0, .slice none 0 0, .slice none 0 0] 0 HB5.out)
  obtain ⟨w9, hw9⟩ : ∃ w9, sets w5 w0.heap.size 0 [.int .i64 0, .int .i64 0, .string ⟨#[]⟩, .string ⟨#[]⟩, .int .i64 0, .int .u64 0, .slice none 0 0, .slice none 0 0, .slice none 0 0] = w9 := ⟨_, rfl⟩
  rw [hw9] at HQ9 HR9 HB9
  go_upto_region 4 with fail
  refine hstart (S := fun u => u.cell? ⟨w3.heap.size, 0, none⟩ = some (.int .i64 (c : Int))) (by kernel_rfl) (by repeat (first | exact PG.body | refine PG.then_ ?_ | refine PG.inBlock ?_)) ?_ (fun hPF hHeld => ?_)
  ·exact s0
  refine htake (i := 0) (v := .agg #[.int .i64 0, .int .i64 0, .string ⟨#[]⟩, .string ⟨#[]⟩, .int .i64 0, .int .u64 0, .slice none 0 0, .slice none 0 0, .slice none 0 0]) rfl (by kernel_rfl) (by kernel_rfl) (by kernel_rfl) hPF (Or.inl ⟨by kernel_rfl, ?_⟩) hHeld ?_
  ·intro u hS; have p0 := hS; go_simp
  refine htake (i := 1) (v := .pointer (some ⟨w3.heap.size, 0, none⟩)) rfl (by kernel_rfl) (by kernel_rfl) (by kernel_rfl) hPF (Or.inl ⟨by kernel_rfl, ?_⟩) hHeld ?_
  ·intro u hS; have p0 := hS; go_simp
  refine htake (i := 2) (v := .int .i64 (c : Int)) rfl (by kernel_rfl) (by kernel_rfl) (by kernel_rfl) hPF (Or.inl ⟨by kernel_rfl, ?_⟩) hHeld ?_
  ·intro u hS; have p0 := hS; go_simp
  refine wpAnyH_ready (rs := [3]) (by kernel_rfl) (by simp) ?_
  refine AllReadyH.cons (i := 3) rfl (fun K hK => ?_) AllReadyH.nil
  go_simp
  have hw9' : (((((((((w5.setCell ⟨w0.heap.size, 0, none⟩ (.int .i64 0)).setCell ⟨w0.heap.size, 1, none⟩ (.int .i64 0)).setCell ⟨w0.heap.size, 2, none⟩ (.string ⟨#[]⟩)).setCell ⟨w0.heap.size, 3, none⟩ (.string ⟨#[]⟩)).setCell ⟨w0.heap.size, 4, none⟩ (.int .i64 0)).setCell ⟨w0.heap.size, 5, none⟩ (.int .u64 0)).setCell ⟨w0.heap.size, 6, none⟩ (.slice none 0 0)).setCell ⟨w0.heap.size, 7, none⟩ (.slice none 0 0)).setCell ⟨w0.heap.size, 8, none⟩ (.slice none 0 0)) = w9 := hw9
  rw [hw9']
  have q0 := (HQ9.out 0 _ rfl).1
  have c0 := (HR9.out 0 _ rfl).1
  have c1 := (HR9.out 1 _ rfl).1
  have c2 := (HR9.out 2 _ rfl).1
  have c3 := (HR9.out 3 _ rfl).1
  have c4 := (HR9.out 4 _ rfl).1
  have c5 := (HR9.out 5 _ rfl).1
  have c6 := (HR9.out 6 _ rfl).1
  have c7 := (HR9.out 7 _ rfl).1
  have c8 := (HR9.out 8 _ rfl).1
  clear hw9 hw9'
  refine hK.out _ _ ?_ (fun hHeld => ?_)
  ·exact q0
  clear hK K
  refine wpAnyH_ready (rs := [4]) (by kernel_rfl) (by simp) ?_
  refine AllReadyH.cons (i := 4) rfl (fun K hK => ?_) AllReadyH.nil
  go_simp
  refine hK.out _ _ ?_ (fun hHeld => ?_)
  ·exact q0
  clear hK K
  refine wpAnyH_done (by kernel_rfl) ?_ _
  go_wp2_with fail
  refine bodyPost_ret (v := .tuple #[.agg #[.int .i64 0, .int .i64 0, .string ⟨#[]⟩, .string ⟨#[]⟩, .int .i64 0, .int .u64 0, .slice none 0 0, .slice none 0 0, .slice none 0 0], .int .i64 (c : Int)]) (by simp [results, Tryz.results11, go_sem, c0, c1, c2, c3, c4, c5, c6, c7, c8]; try rfl) rfl ?_
  exact ⟨HB9.out.drew, .inr ⟨c, HXX.out, rfl⟩⟩
end Go.Proofs.YtpdedfpacklnoaaGreatDoor
namespace Go.Proofs.YtpdedfpacklnoaaGreatDoor
open Go.RowKit Go.BL

theorem H.reason_le (n : Int) : (H.reasonL n).length ≤ 31 := by
 have key : ∀ (c : Prop) [Decidable c] (a b : List UInt8), a.length ≤ 31 → b.length ≤ 31 → (if c then a else b).length ≤ 31 := by
  intro c _ a b h1 h2
  split
  ·exact h1
  ·exact h2
 unfold H.reasonL
 repeat (refine key _ _ _ (by decide) ?_)
 decide
/-- The status that is answered. -/
def refS (st : Int) : Int := if H.reasonL st = [] then 500 else st
def refV (st : Int) : Value := .agg #[.int .i64 (refS st), .slice none 0 0, .string ⟨(H.reasonL (refS st) ++ [10]).toArray⟩]
set_option maxHeartbeats 2000000 in
set_option maxRecDepth 100000 in
theorem refuseA_any (st : Int) (w : World) : Calls Tryz.prog 32 #[.int .i64 st] w (RetV (refV st) w) := by
 obtain ⟨w0, hw0⟩ : ∃ w0, w.alloc (.cells #[.int .i64 0, .slice none 0 0, .string ⟨#[]⟩] 67) = w0 := ⟨_, rfl⟩
 have HB0 : Hid (Below w.heap.size w w0) := Lib.hid (by rw [← hw0]; exact (Below.refl _ _).alloc (Nat.le_refl _) _)
 have HR0 : Hid (Bk w0 w.heap.size [.int .i64 0, .slice none 0 0, .string ⟨#[]⟩]) := Lib.hid (by rw [← hw0]; exact Bk.new w _ 67 rfl)
 have hr1 := H.reason_any st
 have hr2 := H.reason_any 500
 have g0 := (HR0.out 0 _ rfl).1
 have g1 := (HR0.out 1 _ rfl).1
 have g2 := (HR0.out 2 _ rfl).1
 have f0 := (HR0.out 0 _ rfl).2
 have f1 := (HR0.out 1 _ rfl).2
 have f2 := (HR0.out 2 _ rfl).2
 have hle := H.reason_le st
 obtain ⟨R, hR⟩ : ∃ R, H.reasonL st = R := ⟨_, rfl⟩
 rw [hR] at hr1 hle
 have HR := Lib.hid hR
 clear hR
 rcases R with _ | ⟨r0, R⟩
 ·obtain ⟨E, hE⟩ : ∃ E, H.reasonL 500 = E := ⟨_, rfl⟩
  rw [hE] at hr2
  obtain ⟨e1, he1⟩ : ∃ e, E ++ [10] = e := ⟨_, rfl⟩
  have hcat := cat_run E [10] e1 he1 (by have := H.reason_le 500; rw [hE] at this; simp; omega)
  have HV : Hid (refV st = .agg #[.int .i64 500, .slice none 0 0, .string ⟨e1.toArray⟩]) := Lib.hid (by unfold refV refS; rw [HR.out, if_pos rfl, hE, he1])
  have hr := ((HR0.out.set 0 (.int .i64 500)).set 1 (.slice none 0 0)).set 2 (.string ⟨e1.toArray⟩)
  have c0 := (hr 0 _ rfl).1
  have c1 := (hr 1 _ rfl).1
  have c2 := (hr 2 _ rfl).1
  clear hE he1 hr hle
  go_enter Tryz.func32, Tryz.ntmps32
  go_wp2_with fail
  go_at_call 72
  refine (hr1 _).mono ?_
  rintro e w' ⟨rfl, rfl⟩
  clear hr1 hw0
  go_wp2_with fail
  go_at_call 72
  refine (hr2 _).mono ?_
  rintro e w' ⟨rfl, rfl⟩
  go_wp2_with fail
  refine bodyPost_ret (v := .agg #[.int .i64 500, .slice none 0 0, .string ⟨e1.toArray⟩]) (by simp [results, Tryz.results32, go_sem, c0, c1, c2]; try rfl) rfl ?_
  exact ⟨by rw [HV.out], ((HB0.out.setCell (p := ⟨w.heap.size, 0, none⟩) (Nat.le_refl _) _).setCell (p := ⟨w.heap.size, 1, none⟩) (Nat.le_refl _) _).setCell (p := ⟨w.heap.size, 2, none⟩) (Nat.le_refl _) _⟩
 ·obtain ⟨e1, he1⟩ : ∃ e, (r0 :: R) ++ [10] = e := ⟨_, rfl⟩
  have hcat := cat_run (r0 :: R) [10] e1 he1 (by simp at hle ⊢; omega)
  have HV : Hid (refV st = .agg #[.int .i64 st, .slice none 0 0, .string ⟨e1.toArray⟩]) := Lib.hid (by unfold refV refS; rw [HR.out, if_neg (by simp), HR.out, he1])
  have hr := ((HR0.out.set 0 (.int .i64 st)).set 1 (.slice none 0 0)).set 2 (.string ⟨e1.toArray⟩)
  have c0 := (hr 0 _ rfl).1
  have c1 := (hr 1 _ rfl).1
  have c2 := (hr 2 _ rfl).1
  clear he1 hr hle hr2
  go_enter Tryz.func32, Tryz.ntmps32
  go_wp2_with fail
  go_at_call 72
  refine (hr1 _).mono ?_
  rintro e w' ⟨rfl, rfl⟩
  clear hw0
  go_wp2_with fail
  go_at_call 72
  refine (hr1 _).mono ?_
  rintro e w' ⟨rfl, rfl⟩
  go_wp2_with fail
  refine bodyPost_ret (v := .agg #[.int .i64 st, .slice none 0 0, .string ⟨e1.toArray⟩]) (by simp [results, Tryz.results32, go_sem, c0, c1, c2]; try rfl) rfl ?_
  exact ⟨by rw [HV.out], ((HB0.out.setCell (p := ⟨w.heap.size, 0, none⟩) (Nat.le_refl _) _).setCell (p := ⟨w.heap.size, 1, none⟩) (Nat.le_refl _) _).setCell (p := ⟨w.heap.size, 2, none⟩) (Nat.le_refl _) _⟩
set_option maxHeartbeats 2000000 in
set_option maxRecDepth 100000 in
theorem refuseR_any (st : Int) (w : World) : Calls Tryz.prog 33 #[.int .i64 st] w (RetV (refV st) w) := by
 obtain ⟨w0, hw0⟩ : ∃ w0, w.alloc (.cells #[.int .i64 0, .slice none 0 0, .string ⟨#[]⟩] 67) = w0 := ⟨_, rfl⟩
 have HB0 : Hid (Below w.heap.size w w0) := Lib.hid (by rw [← hw0]; exact (Below.refl _ _).alloc (Nat.le_refl _) _)
 have HR0 : Hid (Bk w0 w.heap.size [.int .i64 0, .slice none 0 0, .string ⟨#[]⟩]) := Lib.hid (by rw [← hw0]; exact Bk.new w _ 67 rfl)
 have hr1 := H.reasonR_any st
 have hr2 := H.reasonR_any 500
 have g0 := (HR0.out 0 _ rfl).1
 have g1 := (HR0.out 1 _ rfl).1
 have g2 := (HR0.out 2 _ rfl).1
 have f0 := (HR0.out 0 _ rfl).2
 have f1 := (HR0.out 1 _ rfl).2
 have f2 := (HR0.out 2 _ rfl).2
 have hle := H.reason_le st
 obtain ⟨R, hR⟩ : ∃ R, H.reasonL st = R := ⟨_, rfl⟩
 rw [hR] at hr1 hle
 have HR := Lib.hid hR
 clear hR
 rcases R with _ | ⟨r0, R⟩
 ·obtain ⟨E, hE⟩ : ∃ E, H.reasonL 500 = E := ⟨_, rfl⟩
  rw [hE] at hr2
  obtain ⟨e1, he1⟩ : ∃ e, E ++ [10] = e := ⟨_, rfl⟩
  have hcat := cat_run E [10] e1 he1 (by have := H.reason_le 500; rw [hE] at this; simp; omega)
  have HV : Hid (refV st = .agg #[.int .i64 500, .slice none 0 0, .string ⟨e1.toArray⟩]) := Lib.hid (by unfold refV refS; rw [HR.out, if_pos rfl, hE, he1])
  have hr := ((HR0.out.set 0 (.int .i64 500)).set 1 (.slice none 0 0)).set 2 (.string ⟨e1.toArray⟩)
  have c0 := (hr 0 _ rfl).1
  have c1 := (hr 1 _ rfl).1
  have c2 := (hr 2 _ rfl).1
  clear hE he1 hr hle
  go_enter Tryz.func33, Tryz.ntmps33
  go_wp2_with fail
  go_at_call 73
  refine (hr1 _).mono ?_
  rintro e w' ⟨rfl, rfl⟩
  clear hr1 hw0
  go_wp2_with fail
  go_at_call 73
  refine (hr2 _).mono ?_
  rintro e w' ⟨rfl, rfl⟩
  go_wp2_with fail
  refine bodyPost_ret (v := .agg #[.int .i64 500, .slice none 0 0, .string ⟨e1.toArray⟩]) (by simp [results, Tryz.results33, go_sem, c0, c1, c2]; try rfl) rfl ?_
  exact ⟨by rw [HV.out], ((HB0.out.setCell (p := ⟨w.heap.size, 0, none⟩) (Nat.le_refl _) _).setCell (p := ⟨w.heap.size, 1, none⟩) (Nat.le_refl _) _).setCell (p := ⟨w.heap.size, 2, none⟩) (Nat.le_refl _) _⟩
 ·obtain ⟨e1, he1⟩ : ∃ e, (r0 :: R) ++ [10] = e := ⟨_, rfl⟩
  have hcat := cat_run (r0 :: R) [10] e1 he1 (by simp at hle ⊢; omega)
  have HV : Hid (refV st = .agg #[.int .i64 st, .slice none 0 0, .string ⟨e1.toArray⟩]) := Lib.hid (by unfold refV refS; rw [HR.out, if_neg (by simp), HR.out, he1])
  have hr := ((HR0.out.set 0 (.int .i64 st)).set 1 (.slice none 0 0)).set 2 (.string ⟨e1.toArray⟩)
  have c0 := (hr 0 _ rfl).1
  have c1 := (hr 1 _ rfl).1
  have c2 := (hr 2 _ rfl).1
  clear he1 hr hle hr2
  go_enter Tryz.func33, Tryz.ntmps33
  go_wp2_with fail
  go_at_call 73
  refine (hr1 _).mono ?_
  rintro e w' ⟨rfl, rfl⟩
  clear hw0
  go_wp2_with fail
  go_at_call 73
  refine (hr1 _).mono ?_
  rintro e w' ⟨rfl, rfl⟩
  go_wp2_with fail
  refine bodyPost_ret (v := .agg #[.int .i64 st, .slice none 0 0, .string ⟨e1.toArray⟩]) (by simp [results, Tryz.results33, go_sem, c0, c1, c2]; try rfl) rfl ?_
  exact ⟨by rw [HV.out], ((HB0.out.setCell (p := ⟨w.heap.size, 0, none⟩) (Nat.le_refl _) _).setCell (p := ⟨w.heap.size, 1, none⟩) (Nat.le_refl _) _).setCell (p := ⟨w.heap.size, 2, none⟩) (Nat.le_refl _) _⟩
end Go.Proofs.YtpdedfpacklnoaaGreatDoor
namespace Go.Proofs.YtpdedfpacklnoaaGreatDoor
open Go.RowKit Go.BL Go.Ct Go.Sl

def awkQ : Rq := ⟨putT, [47, 99, 97, 114, 116, 47, 99, 49, 47, 109, 105, 108, 107], [], [50, 32, 49, 46, 53]⟩
theorem awk_price : ∃ p, priceT [49, 46, 53] = some p := by
 refine ⟨_, show priceT [49, 46, 53] = some (Fl.quo (1 * 10 ^ 1 + 5) (10 ^ 1)) from ?_⟩
 unfold priceT
 rw [show cut1 46 [49, 46, 53] = ([49], [53], true) from rfl]
 rfl
theorem awk_pieces : piecesL [50] = some 2 := pieces_iff.2 ⟨by decide, by decide, by rw [Lib.decDigits_one (by decide)]; rfl⟩
theorem awk_route : ∃ p, routeL awkQ.m awkQ.p none awkQ.b 7 = .ok ⟨7, 2, [99, 49], [109, 105, 108, 107], 2, p, noC⟩ := by
 obtain ⟨p, hp⟩ := awk_price
 refine ⟨p, ?_⟩
 have h1 : pathL awkQ.p = ([99, 49], [109, 105, 108, 107], 2) := by decide
 unfold routeL
 rw [h1]
 dsimp only
 rw [if_neg (by decide), show kindL awkQ.m 2 = 2 by decide, if_neg (by decide), if_neg (by decide)]
 show bodyL _ _ = _
 unfold bodyL
 dsimp only
 rw [if_neg (by decide), show cut1 32 awkQ.b = ([50], [49, 46, 53], true) by decide]
 dsimp only
 rw [awk_pieces, hp]
set_option maxHeartbeats 4000000 in
set_option maxRecDepth 100000 in
theorem awake_of (w : World) (hg : EType w) (hrt : ∀ w1, Below w.heap.size w w1 → Calls Tryz.prog 37 #[rqV awkQ (.slice none 0 0), .int .i64 7] w1 (RouR (routeL awkQ.m awkQ.p none awkQ.b 7) w1)) : Calls Tryz.prog 13 #[] w (RetV (.bool true) w) := by
 obtain ⟨p, hp⟩ := awk_route
 rw [hp] at hrt
 have hR := Route_any awkQ (.slice none 0 0) 7 _ w ⟨_, _, _, rfl⟩ hg hrt
 have hF := refuseA_any 503
 have hS : refS 503 = 503 := by decide
 have hL : H.reasonL 503 = [83, 101, 114, 118, 105, 99, 101, 32, 85, 110, 97, 118, 97, 105, 108, 97, 98, 108, 101] := by decide
 unfold refV at hF
 rw [hS, hL] at hF
 dsimp only [rqV, awkQ, putT] at hR
 clear hrt hp hS hL hg
 go_enter Tryz.func13, Tryz.ntmps13
 go_wp2_with fail
 go_at_call 11
 refine hR.mono ?_
 clear hR
 rintro e w1 ⟨hb1, (⟨a, v, ha, rfl, e', mv, cv, rfl, o1, o2, o3⟩ | ⟨c, hc, _⟩)⟩
 case inr => cases hc
 cases ha
 obtain ⟨Ae, ne, ce, rfl⟩ : ∃ A n c, e' = .slice A n c := by obtain ⟨A, c, h⟩ := o1.form; exact ⟨A, _, c, h⟩
 obtain ⟨Am, nm, cm, rfl⟩ : ∃ A n c, mv = .slice A n c := by obtain ⟨A, c, h⟩ := o2.form; exact ⟨A, _, c, h⟩
 obtain ⟨Ac, nc, cc, rfl⟩ : ∃ A n c, cv = .slice A n c := by obtain ⟨A, c, h⟩ := o3.form; exact ⟨A, _, c, h⟩
 dsimp only
 obtain ⟨w2, hw2⟩ : ∃ w2, w1.alloc (.cells #[.int .i64 7, .int .i64 2, .string ⟨#[99, 49]⟩, .string ⟨#[109, 105, 108, 107]⟩, .int .i64 2, .int .u64 (p : Int), .slice Ae ne ce, .slice Am nm cm, .slice Ac nc cc] 34) = w2 := ⟨_, rfl⟩
 have HB1 := Lib.hid hb1
 have hB2 : Below w.heap.size w w2 := by rw [← hw2]; exact hb1.alloc hb1.size _
 have HB2 := Lib.hid hB2
 have hA2 : Bk w2 w1.heap.size [.int .i64 7, .int .i64 2, .string ⟨#[99, 49]⟩, .string ⟨#[109, 105, 108, 107]⟩, .int .i64 2, .int .u64 (p : Int), .slice Ae ne ce, .slice Am nm cm, .slice Ac nc cc] := by rw [← hw2]; exact Bk.new w1 _ 34 rfl
 have HL2 : Hid (w1.heap.size < w2.heap.size) := Lib.hid (by rw [← hw2]; simp)
 have HA2 := Lib.hid hA2
 clear hb1 o1 o2 o3 hB2 hA2
 go_wp2_with fail
 clear hw2
 go_at_call 32
 refine (hF _).mono ?_
 clear hF
 rintro e w3 ⟨rfl, hb3⟩
 have HB3 := Lib.hid (HB2.out.trans (hb3.mono HB2.out.size))
 have HA3 := Lib.hid (HA2.out.below hb3 HL2.out)
 have HL3 : Hid (w1.heap.size < w3.heap.size) := Lib.hid (Nat.lt_of_lt_of_le HL2.out hb3.size)
 clear hb3
 obtain ⟨w4, hw4⟩ : ∃ w4, w3.alloc (.cells #[.int .i64 503, .slice none 0 0, .string ⟨#[83, 101, 114, 118, 105, 99, 101, 32, 85, 110, 97, 118, 97, 105, 108, 97, 98, 108, 101, 10]⟩] 67) = w4 := ⟨_, rfl⟩
 have HB4 : Hid (Below w.heap.size w w4) := Lib.hid (by rw [← hw4]; exact HB3.out.alloc HB3.out.size _)
 have HA4 : Hid (Bk w4 w1.heap.size _) := Lib.hid (by rw [← hw4]; exact HA3.out.alloc _ HL3.out)
 have HC4 : Hid (Bk w4 w3.heap.size [.int .i64 503, .slice none 0 0, .string ⟨#[83, 101, 114, 118, 105, 99, 101, 32, 85, 110, 97, 118, 97, 105, 108, 97, 98, 108, 101, 10]⟩]) := Lib.hid (by rw [← hw4]; exact Bk.new w3 _ 67 rfl)
 have a0 := (HA4.out 0 _ rfl).1
 have a1 := (HA4.out 1 _ rfl).1
 have a2 := (HA4.out 2 _ rfl).1
 have a3 := (HA4.out 3 _ rfl).1
 have a4 := (HA4.out 4 _ rfl).1
 have b0 := (HC4.out 0 _ rfl).1
 have b2 := (HC4.out 2 _ rfl).1
 go_wp2_with fail
 go_ret
 exact ⟨rfl, HB4.out⟩
end Go.Proofs.YtpdedfpacklnoaaGreatDoor
namespace Go.Proofs.YtpdedfpacklnoaaGreatDoor
open Go.RowKit Go.BL Go.Ct Go.Sl

/-- What the walks ask of the world. -/
structure Gnd (w : World) : Prop where
 env : H.Env w
 errs : Errs w
 tab : Tab w
 ety : EType w
theorem Gnd.below {w w' : World} (h : Gnd w) (hb : Below w.heap.size w w') : Gnd w' := ⟨h.env.below hb, h.errs.below hb, h.tab.below hb, h.ety.below hb⟩
/-- route at the request of awake. -/
def AwkC : Prop := ∀ w, Gnd w → Calls Tryz.prog 37 #[rqV awkQ (.slice none 0 0), .int .i64 7] w (RouR (routeL awkQ.m awkQ.p none awkQ.b 7) w)
theorem awake_any (hc : AwkC) (w : World) (h : Gnd w) : Calls Tryz.prog 13 #[] w (RetV (.bool true) w) := awake_of w h.ety (fun w1 hb => hc w1 (h.below hb))
end Go.Proofs.YtpdedfpacklnoaaGreatDoor

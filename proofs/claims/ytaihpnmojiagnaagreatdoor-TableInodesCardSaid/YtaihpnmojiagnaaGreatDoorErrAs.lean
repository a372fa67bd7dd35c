/- errors.As at wire's own error and at a target of its type: the target gets the error's number, the answer is true. Conditions: errors.errorType holds what its initialiser lays; the target lies in a block of its own. After the kit's worked text on errors.As. -/
import Derived.Test.YtaihpnmojiagnaaGreatDoorWords
import Derived.Test.YtaihpnmojiagnaaGreatDoorProg
import Derived.Handy
import Derived.LaidEql
import Derived.Stop.Asserts
import Derived.RowKitTokens
import Derived.WalkSpells
namespace Go.Proofs.YtaihpnmojiagnaaGreatDoor.ErrAs
open Go.RowKit Go.Extern.Stop Go.Stop Go.Extern

theorem valueOfP (t : Addr) (w : World) : (ReflectliteValue.unpack (.iface 123 (.pointer (some t)))).run Tryz.prog w
    = .ok (.agg #[.pointer (some ⟨4, 123, none⟩), .pointer (some ⟨w.heap.size, 0, none⟩), .int .u64 150]) (w.alloc (.cells #[.pointer (some t)] 123)) := by kernel_rfl
theorem typeP (a : Addr) (w : World) : (ReflectliteValue.methodAny (ReflectliteValue.valueError "reflectlite.Value.Type" 0) (fun t _ _ _ => ReflectliteType.toType t) #[.agg #[.pointer (some ⟨4, 123, none⟩), .pointer (some a), .int .u64 150]]).run Tryz.prog w
    = .ok (.iface 141 (.agg #[.pointer (some ⟨4, 123, none⟩)])) w := by kernel_rfl
theorem kindP (w : World) : ((ReflectliteType.abiMethod fun t => (fun a : Nat => Value.int IntKind.u8 (a : Int)) <$> Rtype.kind t) #[.pointer (some ⟨4, 123, none⟩)]).run Tryz.prog w = .ok (.int .u8 22) w := by kernel_rfl
theorem kindS (w : World) : ((ReflectliteType.abiMethod fun t => (fun a : Nat => Value.int IntKind.u8 (a : Int)) <$> Rtype.kind t) #[.pointer (some ⟨4, 121, none⟩)]).run Tryz.prog w = .ok (.int .u8 25) w := by kernel_rfl

theorem rlm (z : Sem Value) (f : TypeId → Addr → Nat → Nat → Sem Value) (v : Value) :
    ReflectliteValue.method z f #[v] = (do match ← ReflectliteValue.parts v with | none => z | some (t, a, fl) => f t a fl (fl % 32)) := rfl
theorem partsP (a : Addr) (w : World) : (ReflectliteValue.parts (.agg #[.pointer (some ⟨4, 123, none⟩), .pointer (some a), .int .u64 150])).run Tryz.prog w = .ok (some (123, a, 150)) w := by kernel_rfl
theorem isNilP (a p : Addr) (W : World) (ha : W.cell? a = some (.pointer (some p))) :
    (ReflectliteValue.method (ReflectliteValue.valueError "reflectlite.Value.IsNil" 0) ReflectliteValue.isNil #[.agg #[.pointer (some ⟨4, 123, none⟩), .pointer (some a), .int .u64 150]]).run Tryz.prog W = .ok (.bool false) W := by
  rw [rlm]
  simp only [Sem.run_bind, partsP, Result.andThen]
  simp [ReflectliteValue.isNil, loadVar, isAgg, underlying, Tryz.underlying123, ha, Result.andThen]
theorem elemP (w : World) : (ReflectliteType.method ReflectliteType.elem #[.agg #[.pointer (some ⟨4, 123, none⟩)]]).run Tryz.prog w = .ok (.iface 141 (.agg #[.pointer (some ⟨4, 121, none⟩)])) w := by kernel_rfl
theorem implementsS (w : World) : (ReflectliteType.relation "Implements" ReflectliteType.implements_ #[.agg #[.pointer (some ⟨4, 121, none⟩)], .iface 141 (.agg #[.pointer (some ⟨4, 92, none⟩)])]).run Tryz.prog w = .ok (.bool true) w := by kernel_rfl
theorem typeOfS (v : Value) (w : World) : (ReflectliteType.typeOf #[.iface 121 v]).run Tryz.prog w = .ok (.iface 141 (.agg #[.pointer (some ⟨4, 121, none⟩)])) w := by kernel_rfl
theorem assignableS (w : World) : (ReflectliteType.relation "AssignableTo" ReflectliteType.assignableTo #[.agg #[.pointer (some ⟨4, 121, none⟩)], .iface 141 (.agg #[.pointer (some ⟨4, 121, none⟩)])]).run Tryz.prog w = .ok (.bool true) w := by kernel_rfl
theorem valueOfS (e : Int) (w : World) : (ReflectliteValue.unpack (.iface 121 (.agg #[.int .i64 e]))).run Tryz.prog w
    = .ok (.agg #[.pointer (some ⟨4, 121, none⟩), .pointer (some ⟨w.heap.size, 0, none⟩), .int .u64 153]) (w.alloc (.cells #[.int .i64 e] 121)) := by kernel_rfl
theorem elemOfP (w : World) : (Rtype.elem? 123).run Tryz.prog w = .ok (some 121) w := by kernel_rfl
theorem mkS (p : Addr) (w : World) : (ReflectliteValue.mk 121 p ReflectliteValue.flagAddr).run Tryz.prog w = .ok (.agg #[.pointer (some ⟨4, 121, none⟩), .pointer (some p), .int .u64 409]) w := by kernel_rfl
theorem elemVP (a p : Addr) (W : World) (ha : W.cell? a = some (.pointer (some p))) :
    (ReflectliteValue.method (ReflectliteValue.valueError "reflectlite.Value.Elem" 0) ReflectliteValue.elem #[.agg #[.pointer (some ⟨4, 123, none⟩), .pointer (some a), .int .u64 150]]).run Tryz.prog W
      = .ok (.agg #[.pointer (some ⟨4, 121, none⟩), .pointer (some p), .int .u64 409]) W := by
  rw [rlm]
  simp only [Sem.run_bind, partsP, Result.andThen]
  simp [ReflectliteValue.elem, loadVar, isAgg, underlying, Tryz.underlying123, ha, Result.andThen, elemOfP, mkS]
theorem partsSa (a : Addr) (w : World) : (ReflectliteValue.parts (.agg #[.pointer (some ⟨4, 121, none⟩), .pointer (some a), .int .u64 409])).run Tryz.prog w = .ok (some (121, a, 409)) w := by kernel_rfl
theorem partsS (a : Addr) (w : World) : (ReflectliteValue.parts (.agg #[.pointer (some ⟨4, 121, none⟩), .pointer (some a), .int .u64 153])).run Tryz.prog w = .ok (some (121, a, 153)) w := by kernel_rfl
theorem directS (w : World) : (Rtype.directlyAssignable 121 121).run Tryz.prog w = .ok true w := by kernel_rfl
end Go.Proofs.YtaihpnmojiagnaaGreatDoor.ErrAs

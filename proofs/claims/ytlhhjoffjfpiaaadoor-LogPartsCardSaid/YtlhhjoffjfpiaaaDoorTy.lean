/- What the types of this seat's program tell, in the words of YtlhhjoffjfpiaaaDoorHp. Printed by a program of this session's. -/
import Derived.Test.YtlhhjoffjfpiaaaDoorHp
import Derived.Test.YtlhhjoffjfpiaaaDoorProg
set_option linter.unusedVariables false
namespace Go.Proofs.YtlhhjoffjfpiaaaDoor
open Go Go.RowKit Go.Hpw
instance : OneT Tryd.prog 3 := ⟨fun _ => Tryd.isAgg3 .., fun _ => Tryd.sizeOf3 ..⟩
instance : ZeroT Tryd.prog 3 [.int .i64 0] := ⟨_, rfl, fun _ => Tryd.zeroValue3 ..⟩
instance : OneT Tryd.prog 4 := ⟨fun _ => Tryd.isAgg4 .., fun _ => Tryd.sizeOf4 ..⟩
instance : ZeroT Tryd.prog 4 [.bool false] := ⟨_, rfl, fun _ => Tryd.zeroValue4 ..⟩
instance : OneT Tryd.prog 22 := ⟨fun _ => Tryd.isAgg22 .., fun _ => Tryd.sizeOf22 ..⟩
instance : ZeroT Tryd.prog 22 [.slice none 0 0] := ⟨_, rfl, fun _ => Tryd.zeroValue22 ..⟩
instance : OneT Tryd.prog 24 := ⟨fun _ => Tryd.isAgg24 .., fun _ => Tryd.sizeOf24 ..⟩
instance : ZeroT Tryd.prog 24 [.int .u64 0] := ⟨_, rfl, fun _ => Tryd.zeroValue24 ..⟩
instance : AggT Tryd.prog 26 3 := ⟨fun _ => Tryd.isAgg26 .., fun _ => Tryd.sizeOf26 ..⟩
instance : ZeroT Tryd.prog 26 [.int .i64 0, .int .u64 0, .slice none 0 0] := ⟨_, rfl, fun _ => Tryd.zeroValue26 ..⟩
instance : OneT Tryd.prog 30 := ⟨fun _ => Tryd.isAgg30 .., fun _ => Tryd.sizeOf30 ..⟩
instance : ZeroT Tryd.prog 30 [.int .u32 0] := ⟨_, rfl, fun _ => Tryd.zeroValue30 ..⟩
instance : OneT Tryd.prog 31 := ⟨fun _ => Tryd.isAgg31 .., fun _ => Tryd.sizeOf31 ..⟩
instance : ZeroT Tryd.prog 31 [.int .u16 0] := ⟨_, rfl, fun _ => Tryd.zeroValue31 ..⟩
instance : AggT Tryd.prog 33 2 := ⟨fun _ => Tryd.isAgg33 .., fun _ => Tryd.sizeOf33 ..⟩
instance : ZeroT Tryd.prog 33 [.int .i64 0, .int .u16 0] := ⟨_, rfl, fun _ => Tryd.zeroValue33 ..⟩
instance : AggT Tryd.prog 35 6 := ⟨fun _ => Tryd.isAgg35 .., fun _ => Tryd.sizeOf35 ..⟩
instance : ZeroT Tryd.prog 35 [.int .u64 0, .int .i64 0, .int .u32 0, .int .u32 0, .int .i64 0, .int .u16 0] := ⟨_, rfl, fun _ => Tryd.zeroValue35 ..⟩
instance : AggT Tryd.prog 64 7 := ⟨fun _ => Tryd.isAgg64 .., fun _ => Tryd.sizeOf64 ..⟩
instance : ZeroT Tryd.prog 64 [.int .i64 0, .bool false, .int .i64 0, .bool false, .int .u16 0, .bool false, .int .i64 0] := ⟨_, rfl, fun _ => Tryd.zeroValue64 ..⟩
instance : AggT Tryd.prog 68 2 := ⟨fun _ => Tryd.isAgg68 .., fun _ => Tryd.sizeOf68 ..⟩
instance : ZeroT Tryd.prog 68 [.bool false, .bool false] := ⟨_, rfl, fun _ => Tryd.zeroValue68 ..⟩
instance : OneT Tryd.prog 77 := ⟨fun _ => Tryd.isAgg77 .., fun _ => Tryd.sizeOf77 ..⟩
instance : ZeroT Tryd.prog 77 [.nilFunc] := ⟨_, rfl, fun _ => Tryd.zeroValue77 ..⟩
instance : OneT Tryd.prog 81 := ⟨fun _ => Tryd.isAgg81 .., fun _ => Tryd.sizeOf81 ..⟩
instance : ZeroT Tryd.prog 81 [.nilFunc] := ⟨_, rfl, fun _ => Tryd.zeroValue81 ..⟩
instance : SlT Tryd.prog 22 35 6 40 := .of (.agg #[.int .u64 0, .int .i64 0, .int .u32 0, .int .u32 0, .int .i64 0, .int .u16 0]) Tryd.underlying22 (by kernel_rfl) rfl (by decide) (by decide)
end Go.Proofs.YtlhhjoffjfpiaaaDoor

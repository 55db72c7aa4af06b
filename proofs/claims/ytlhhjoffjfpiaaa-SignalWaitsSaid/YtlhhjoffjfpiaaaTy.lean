/- What the types of this seat's program tell, in the words of YtlhhjoffjfpiaaaHp. Printed by a program of this session's. -/
import Derived.Test.YtlhhjoffjfpiaaaHp
import Derived.Test.YtlhhjoffjfpiaaaProg
set_option linter.unusedVariables false
namespace Go.Proofs.Ytlhhjoffjfpiaaa
open Go Go.RowKit Go.Hpw
instance : OneT Try.prog 3 := ⟨fun _ => Try.isAgg3 .., fun _ => Try.sizeOf3 ..⟩
instance : ZeroT Try.prog 3 [.int .i64 0] := ⟨_, rfl, fun _ => Try.zeroValue3 ..⟩
instance : OneT Try.prog 4 := ⟨fun _ => Try.isAgg4 .., fun _ => Try.sizeOf4 ..⟩
instance : ZeroT Try.prog 4 [.bool false] := ⟨_, rfl, fun _ => Try.zeroValue4 ..⟩
instance : AggT Try.prog 24 4 := ⟨fun _ => Try.isAgg24 .., fun _ => Try.sizeOf24 ..⟩
instance : ZeroT Try.prog 24 [.int .i64 0, .int .i64 0, .int .u32 0, .int .u32 0] := ⟨_, rfl, fun _ => Try.zeroValue24 ..⟩
instance : OneT Try.prog 25 := ⟨fun _ => Try.isAgg25 .., fun _ => Try.sizeOf25 ..⟩
instance : ZeroT Try.prog 25 [.slice none 0 0] := ⟨_, rfl, fun _ => Try.zeroValue25 ..⟩
instance : AggT Try.prog 27 9 := ⟨fun _ => Try.isAgg27 .., fun _ => Try.sizeOf27 ..⟩
instance : ZeroT Try.prog 27 [.int .i64 0, .bool false, .bool false, .bool false, .int .i64 0, .int .i64 0, .int .u32 0, .int .u32 0, .slice none 0 0] := ⟨_, rfl, fun _ => Try.zeroValue27 ..⟩
instance : AggT Try.prog 33 6 := ⟨fun _ => Try.isAgg33 .., fun _ => Try.sizeOf33 ..⟩
instance : ZeroT Try.prog 33 [.bool false, .bool false, .int .i64 0, .int .i64 0, .int .u32 0, .int .u32 0] := ⟨_, rfl, fun _ => Try.zeroValue33 ..⟩
instance : AggT Try.prog 43 9 := ⟨fun _ => Try.isAgg43 .., fun _ => Try.sizeOf43 ..⟩
instance : ZeroT Try.prog 43 [.int .i64 0, .bool false, .bool false, .bool false, .int .i64 0, .int .i64 0, .int .u32 0, .int .u32 0, .slice none 0 0] := ⟨_, rfl, fun _ => Try.zeroValue43 ..⟩
instance : SlT Try.prog 25 4 1 1 := .of (.bool false) Try.underlying25 (by kernel_rfl) rfl (by decide) (by decide)
end Go.Proofs.Ytlhhjoffjfpiaaa

/-
  Texts of this proof, laid together (part 3 of 8).
-/
import Derived.Test.YtlhlidmhlhodiaaB2
import Derived.Test.YtlhlidmhlhodiaaProg
import Derived.KernelRfl
/-
  What the types and functions of this seat's program are, as instances. (Written by wip/tools/types.py.)
-/
namespace Go.Proofs.Ytlhlidmhlhodiaa
set_option linter.unusedVariables false

instance : TOne Try.prog 2 := ⟨by kernel_rfl⟩
instance : TInt Try.prog 2 .i64 := ⟨by kernel_rfl⟩
instance : TZV Try.prog 2 (.int .i64 0) := ⟨by kernel_rfl⟩
instance : TZ Try.prog 2 [.int .i64 0] := ⟨by kernel_rfl⟩
instance : TOne Try.prog 3 := ⟨by kernel_rfl⟩
instance : TInt Try.prog 3 .i64 := ⟨by kernel_rfl⟩
instance : TZV Try.prog 3 (.int .i64 0) := ⟨by kernel_rfl⟩
instance : TZ Try.prog 3 [.int .i64 0] := ⟨by kernel_rfl⟩
instance : TOne Try.prog 4 := ⟨by kernel_rfl⟩
instance : TBool Try.prog 4 := ⟨by kernel_rfl⟩
instance : TZV Try.prog 4 (.bool false) := ⟨by kernel_rfl⟩
instance : TZ Try.prog 4 [.bool false] := ⟨by kernel_rfl⟩
instance : TOne Try.prog 5 := ⟨by kernel_rfl⟩
instance : TInt Try.prog 5 .u8 := ⟨by kernel_rfl⟩
instance : TZV Try.prog 5 (.int .u8 0) := ⟨by kernel_rfl⟩
instance : TZ Try.prog 5 [.int .u8 0] := ⟨by kernel_rfl⟩
instance : TOne Try.prog 9 := ⟨by kernel_rfl⟩
instance : TStr Try.prog 9 := ⟨by kernel_rfl⟩
instance : TZV Try.prog 9 (.string ByteArray.empty) := ⟨by kernel_rfl⟩
instance : TZ Try.prog 9 [.string ByteArray.empty] := ⟨by kernel_rfl⟩
instance : TOne Try.prog 12 := ⟨by kernel_rfl⟩
instance : TInt Try.prog 12 .u64 := ⟨by kernel_rfl⟩
instance : TZV Try.prog 12 (.int .u64 0) := ⟨by kernel_rfl⟩
instance : TZ Try.prog 12 [.int .u64 0] := ⟨by kernel_rfl⟩
instance : TAgg Try.prog 13 2 := ⟨by kernel_rfl⟩
instance : TSt Try.prog 13 := ⟨by kernel_rfl⟩
instance : FS Try.prog 13 0 0 1 := ⟨by kernel_rfl⟩
instance : FS Try.prog 13 1 1 1 := ⟨by kernel_rfl⟩
instance : TZ Try.prog 13 [.string ByteArray.empty, .int .u64 0] := ⟨by kernel_rfl⟩
instance : TOne Try.prog 20 := ⟨by kernel_rfl⟩
instance : TZ Try.prog 20 [.nilIface] := ⟨by kernel_rfl⟩
instance : TOne Try.prog 21 := ⟨by kernel_rfl⟩
instance : TInt Try.prog 21 .i32 := ⟨by kernel_rfl⟩
instance : TZV Try.prog 21 (.int .i32 0) := ⟨by kernel_rfl⟩
instance : TZ Try.prog 21 [.int .i32 0] := ⟨by kernel_rfl⟩
instance : TAgg Try.prog 22 9 := ⟨by kernel_rfl⟩
instance : TSt Try.prog 22 := ⟨by kernel_rfl⟩
instance : FS Try.prog 22 0 0 1 := ⟨by kernel_rfl⟩
instance : FS Try.prog 22 1 1 1 := ⟨by kernel_rfl⟩
instance : FS Try.prog 22 2 2 1 := ⟨by kernel_rfl⟩
instance : FS Try.prog 22 3 3 1 := ⟨by kernel_rfl⟩
instance : FS Try.prog 22 4 4 1 := ⟨by kernel_rfl⟩
instance : FS Try.prog 22 5 5 1 := ⟨by kernel_rfl⟩
instance : FS Try.prog 22 6 6 1 := ⟨by kernel_rfl⟩
instance : FS Try.prog 22 7 7 1 := ⟨by kernel_rfl⟩
instance : FS Try.prog 22 8 8 1 := ⟨by kernel_rfl⟩
instance : TZ Try.prog 22 [.bool false, .bool false, .int .i64 0, .int .i64 0, .bool false, .int .i64 0, .int .i64 0, .bool false, .int .i64 0] := ⟨by kernel_rfl⟩
instance : TAgg Try.prog 23 9 := ⟨by kernel_rfl⟩
instance : TSt Try.prog 23 := ⟨by kernel_rfl⟩
instance : FS Try.prog 23 0 0 1 := ⟨by kernel_rfl⟩
instance : FS Try.prog 23 1 1 1 := ⟨by kernel_rfl⟩
instance : FS Try.prog 23 2 2 1 := ⟨by kernel_rfl⟩
instance : FS Try.prog 23 3 3 1 := ⟨by kernel_rfl⟩
instance : FS Try.prog 23 4 4 1 := ⟨by kernel_rfl⟩
instance : FS Try.prog 23 5 5 1 := ⟨by kernel_rfl⟩
instance : FS Try.prog 23 6 6 1 := ⟨by kernel_rfl⟩
instance : FS Try.prog 23 7 7 1 := ⟨by kernel_rfl⟩
instance : FS Try.prog 23 8 8 1 := ⟨by kernel_rfl⟩
instance : TZ Try.prog 23 [.bool false, .bool false, .int .i64 0, .int .i64 0, .bool false, .int .i64 0, .int .i64 0, .bool false, .int .i64 0] := ⟨by kernel_rfl⟩
instance : TOne Try.prog 24 := ⟨by kernel_rfl⟩
instance : TInt Try.prog 24 .u16 := ⟨by kernel_rfl⟩
instance : TZV Try.prog 24 (.int .u16 0) := ⟨by kernel_rfl⟩
instance : TZ Try.prog 24 [.int .u16 0] := ⟨by kernel_rfl⟩
instance : TOne Try.prog 27 := ⟨by kernel_rfl⟩
instance : TInt Try.prog 27 .i64 := ⟨by kernel_rfl⟩
instance : TZV Try.prog 27 (.int .i64 0) := ⟨by kernel_rfl⟩
instance : TZ Try.prog 27 [.int .i64 0] := ⟨by kernel_rfl⟩
instance : TOne Try.prog 30 := ⟨by kernel_rfl⟩
instance : TInt Try.prog 30 .u32 := ⟨by kernel_rfl⟩
instance : TZV Try.prog 30 (.int .u32 0) := ⟨by kernel_rfl⟩
instance : TZ Try.prog 30 [.int .u32 0] := ⟨by kernel_rfl⟩
instance : TOne Try.prog 31 := ⟨by kernel_rfl⟩
instance : TSl Try.prog 31 30 1 4 := ⟨by kernel_rfl⟩
instance : TZ Try.prog 31 [.slice none 0 0] := ⟨by kernel_rfl⟩
instance : TAgg Try.prog 32 11 := ⟨by kernel_rfl⟩
instance : TSt Try.prog 32 := ⟨by kernel_rfl⟩
instance : FS Try.prog 32 0 0 1 := ⟨by kernel_rfl⟩
instance : FS Try.prog 32 1 1 1 := ⟨by kernel_rfl⟩
instance : FS Try.prog 32 2 2 1 := ⟨by kernel_rfl⟩
instance : FS Try.prog 32 3 3 1 := ⟨by kernel_rfl⟩
instance : FS Try.prog 32 4 4 1 := ⟨by kernel_rfl⟩
instance : FS Try.prog 32 5 5 1 := ⟨by kernel_rfl⟩
instance : FS Try.prog 32 6 6 1 := ⟨by kernel_rfl⟩
instance : FS Try.prog 32 7 7 1 := ⟨by kernel_rfl⟩
instance : FS Try.prog 32 8 8 1 := ⟨by kernel_rfl⟩
instance : FS Try.prog 32 9 9 1 := ⟨by kernel_rfl⟩
instance : FS Try.prog 32 10 10 1 := ⟨by kernel_rfl⟩
instance : TZ Try.prog 32 [.bool false, .int .u8 0, .int .u16 0, .int .u32 0, .int .u32 0, .slice none 0 0, .bool false, .int .u16 0, .string ByteArray.empty, .string ByteArray.empty, .int .i64 0] := ⟨by kernel_rfl⟩
instance : TAgg Try.prog 33 11 := ⟨by kernel_rfl⟩
instance : TSt Try.prog 33 := ⟨by kernel_rfl⟩
instance : FS Try.prog 33 0 0 1 := ⟨by kernel_rfl⟩
instance : FS Try.prog 33 1 1 1 := ⟨by kernel_rfl⟩
instance : FS Try.prog 33 2 2 1 := ⟨by kernel_rfl⟩
instance : FS Try.prog 33 3 3 1 := ⟨by kernel_rfl⟩
instance : FS Try.prog 33 4 4 1 := ⟨by kernel_rfl⟩
instance : FS Try.prog 33 5 5 1 := ⟨by kernel_rfl⟩
instance : FS Try.prog 33 6 6 1 := ⟨by kernel_rfl⟩
instance : FS Try.prog 33 7 7 1 := ⟨by kernel_rfl⟩
instance : FS Try.prog 33 8 8 1 := ⟨by kernel_rfl⟩
instance : FS Try.prog 33 9 9 1 := ⟨by kernel_rfl⟩
instance : FS Try.prog 33 10 10 1 := ⟨by kernel_rfl⟩
instance : TZ Try.prog 33 [.bool false, .int .u8 0, .int .u16 0, .int .u32 0, .int .u32 0, .slice none 0 0, .bool false, .int .u16 0, .string ByteArray.empty, .string ByteArray.empty, .int .i64 0] := ⟨by kernel_rfl⟩
instance : TOne Try.prog 40 := ⟨by kernel_rfl⟩
instance : TSl Try.prog 40 4 1 1 := ⟨by kernel_rfl⟩
instance : TZ Try.prog 40 [.slice none 0 0] := ⟨by kernel_rfl⟩
instance : TOne Try.prog 41 := ⟨by kernel_rfl⟩
instance : TPtr Try.prog 41 164 := ⟨by kernel_rfl⟩
instance : TZ Try.prog 41 [.pointer none] := ⟨by kernel_rfl⟩
instance : TOne Try.prog 43 := ⟨by kernel_rfl⟩
instance : TPtr Try.prog 43 166 := ⟨by kernel_rfl⟩
instance : TZ Try.prog 43 [.pointer none] := ⟨by kernel_rfl⟩
instance : TAgg Try.prog 46 2 := ⟨by kernel_rfl⟩
instance : TSt Try.prog 46 := ⟨by kernel_rfl⟩
instance : FS Try.prog 46 0 0 1 := ⟨by kernel_rfl⟩
instance : FS Try.prog 46 1 1 1 := ⟨by kernel_rfl⟩
instance : TZ Try.prog 46 [.int .i64 0, .int .i64 0] := ⟨by kernel_rfl⟩
instance : TAgg Try.prog 47 2 := ⟨by kernel_rfl⟩
instance : TSt Try.prog 47 := ⟨by kernel_rfl⟩
instance : FS Try.prog 47 0 0 1 := ⟨by kernel_rfl⟩
instance : FS Try.prog 47 1 1 1 := ⟨by kernel_rfl⟩
instance : TZ Try.prog 47 [.int .i64 0, .int .i64 0] := ⟨by kernel_rfl⟩
instance : TOne Try.prog 54 := ⟨by kernel_rfl⟩
instance : TPtr Try.prog 54 169 := ⟨by kernel_rfl⟩
instance : TZ Try.prog 54 [.pointer none] := ⟨by kernel_rfl⟩
instance : TOne Try.prog 57 := ⟨by kernel_rfl⟩
instance : TPtr Try.prog 57 173 := ⟨by kernel_rfl⟩
instance : TZ Try.prog 57 [.pointer none] := ⟨by kernel_rfl⟩
instance : TAgg Try.prog 60 3 := ⟨by kernel_rfl⟩
instance : TSt Try.prog 60 := ⟨by kernel_rfl⟩
instance : FS Try.prog 60 0 0 1 := ⟨by kernel_rfl⟩
instance : FS Try.prog 60 1 1 1 := ⟨by kernel_rfl⟩
instance : FS Try.prog 60 2 2 1 := ⟨by kernel_rfl⟩
instance : TZ Try.prog 60 [.int .i64 0, .int .i64 0, .int .i64 0] := ⟨by kernel_rfl⟩
instance : TAgg Try.prog 61 3 := ⟨by kernel_rfl⟩
instance : TSt Try.prog 61 := ⟨by kernel_rfl⟩
instance : FS Try.prog 61 0 0 1 := ⟨by kernel_rfl⟩
instance : FS Try.prog 61 1 1 1 := ⟨by kernel_rfl⟩
instance : FS Try.prog 61 2 2 1 := ⟨by kernel_rfl⟩
instance : TZ Try.prog 61 [.int .i64 0, .int .i64 0, .int .i64 0] := ⟨by kernel_rfl⟩
instance : TOne Try.prog 66 := ⟨by kernel_rfl⟩
instance : TSl Try.prog 66 179 1 16 := ⟨by kernel_rfl⟩
instance : TZ Try.prog 66 [.slice none 0 0] := ⟨by kernel_rfl⟩
instance : TOne Try.prog 70 := ⟨by kernel_rfl⟩
instance : TSl Try.prog 70 24 1 2 := ⟨by kernel_rfl⟩
instance : TZ Try.prog 70 [.slice none 0 0] := ⟨by kernel_rfl⟩
instance : TOne Try.prog 72 := ⟨by kernel_rfl⟩
instance : TSl Try.prog 72 186 2 4 := ⟨by kernel_rfl⟩
instance : TZ Try.prog 72 [.slice none 0 0] := ⟨by kernel_rfl⟩
instance : TAgg Try.prog 74 3 := ⟨by kernel_rfl⟩
instance : TSt Try.prog 74 := ⟨by kernel_rfl⟩
instance : FS Try.prog 74 0 0 1 := ⟨by kernel_rfl⟩
instance : FS Try.prog 74 1 1 1 := ⟨by kernel_rfl⟩
instance : FS Try.prog 74 2 2 1 := ⟨by kernel_rfl⟩
instance : TZ Try.prog 74 [.int .u32 0, .int .u32 0, .slice none 0 0] := ⟨by kernel_rfl⟩
instance : TAgg Try.prog 75 3 := ⟨by kernel_rfl⟩
instance : TSt Try.prog 75 := ⟨by kernel_rfl⟩
instance : FS Try.prog 75 0 0 1 := ⟨by kernel_rfl⟩
instance : FS Try.prog 75 1 1 1 := ⟨by kernel_rfl⟩
instance : FS Try.prog 75 2 2 1 := ⟨by kernel_rfl⟩
instance : TZ Try.prog 75 [.int .u32 0, .int .u32 0, .slice none 0 0] := ⟨by kernel_rfl⟩
instance : TAgg Try.prog 76 2 := ⟨by kernel_rfl⟩
instance : TSt Try.prog 76 := ⟨by kernel_rfl⟩
instance : FS Try.prog 76 0 0 1 := ⟨by kernel_rfl⟩
instance : FS Try.prog 76 1 1 1 := ⟨by kernel_rfl⟩
instance : TZ Try.prog 76 [.int .u32 0, .int .u32 0] := ⟨by kernel_rfl⟩
instance : TAgg Try.prog 77 2 := ⟨by kernel_rfl⟩
instance : TSt Try.prog 77 := ⟨by kernel_rfl⟩
instance : FS Try.prog 77 0 0 1 := ⟨by kernel_rfl⟩
instance : FS Try.prog 77 1 1 1 := ⟨by kernel_rfl⟩
instance : TZ Try.prog 77 [.int .u32 0, .int .u32 0] := ⟨by kernel_rfl⟩
instance : TOne Try.prog 78 := ⟨by kernel_rfl⟩
instance : TInt Try.prog 78 .u64 := ⟨by kernel_rfl⟩
instance : TZV Try.prog 78 (.int .u64 0) := ⟨by kernel_rfl⟩
instance : TZ Try.prog 78 [.int .u64 0] := ⟨by kernel_rfl⟩
instance : TAgg Try.prog 79 4 := ⟨by kernel_rfl⟩
instance : TSt Try.prog 79 := ⟨by kernel_rfl⟩
instance : FS Try.prog 79 0 0 1 := ⟨by kernel_rfl⟩
instance : FS Try.prog 79 1 1 1 := ⟨by kernel_rfl⟩
instance : FS Try.prog 79 2 2 1 := ⟨by kernel_rfl⟩
instance : FS Try.prog 79 3 3 1 := ⟨by kernel_rfl⟩
instance : TZ Try.prog 79 [.slice none 0 0, .bool false, .int .u64 0, .bool false] := ⟨by kernel_rfl⟩
instance : TAgg Try.prog 80 4 := ⟨by kernel_rfl⟩
instance : TSt Try.prog 80 := ⟨by kernel_rfl⟩
instance : FS Try.prog 80 0 0 1 := ⟨by kernel_rfl⟩
instance : FS Try.prog 80 1 1 1 := ⟨by kernel_rfl⟩
instance : FS Try.prog 80 2 2 1 := ⟨by kernel_rfl⟩
instance : FS Try.prog 80 3 3 1 := ⟨by kernel_rfl⟩
instance : TZ Try.prog 80 [.slice none 0 0, .bool false, .int .u64 0, .bool false] := ⟨by kernel_rfl⟩
instance : TOne Try.prog 82 := ⟨by kernel_rfl⟩
instance : TMap Try.prog 82 24 3 := ⟨by kernel_rfl⟩
instance : TZ Try.prog 82 [.map none] := ⟨by kernel_rfl⟩
instance : TOne Try.prog 85 := ⟨by kernel_rfl⟩
instance : TSl Try.prog 85 3 1 8 := ⟨by kernel_rfl⟩
instance : TZ Try.prog 85 [.slice none 0 0] := ⟨by kernel_rfl⟩
instance : TOne Try.prog 86 := ⟨by kernel_rfl⟩
instance : TPtr Try.prog 86 210 := ⟨by kernel_rfl⟩
instance : TZ Try.prog 86 [.pointer none] := ⟨by kernel_rfl⟩
instance : TAgg Try.prog 89 2 := ⟨by kernel_rfl⟩
instance : TSt Try.prog 89 := ⟨by kernel_rfl⟩
instance : FS Try.prog 89 0 0 1 := ⟨by kernel_rfl⟩
instance : FS Try.prog 89 1 1 1 := ⟨by kernel_rfl⟩
instance : TZ Try.prog 89 [.int .i64 0, .int .i64 0] := ⟨by kernel_rfl⟩
instance : TAgg Try.prog 90 2 := ⟨by kernel_rfl⟩
instance : TSt Try.prog 90 := ⟨by kernel_rfl⟩
instance : FS Try.prog 90 0 0 1 := ⟨by kernel_rfl⟩
instance : FS Try.prog 90 1 1 1 := ⟨by kernel_rfl⟩
instance : TZ Try.prog 90 [.int .i64 0, .int .i64 0] := ⟨by kernel_rfl⟩
instance : TAgg Try.prog 91 4 := ⟨by kernel_rfl⟩
instance : TSt Try.prog 91 := ⟨by kernel_rfl⟩
instance : FS Try.prog 91 0 0 1 := ⟨by kernel_rfl⟩
instance : FS Try.prog 91 1 1 1 := ⟨by kernel_rfl⟩
instance : FS Try.prog 91 2 2 1 := ⟨by kernel_rfl⟩
instance : FS Try.prog 91 3 3 1 := ⟨by kernel_rfl⟩
instance : TZ Try.prog 91 [.bool false, .int .i64 0, .int .i64 0, .int .i64 0] := ⟨by kernel_rfl⟩
instance : TAgg Try.prog 92 4 := ⟨by kernel_rfl⟩
instance : TSt Try.prog 92 := ⟨by kernel_rfl⟩
instance : FS Try.prog 92 0 0 1 := ⟨by kernel_rfl⟩
instance : FS Try.prog 92 1 1 1 := ⟨by kernel_rfl⟩
instance : FS Try.prog 92 2 2 1 := ⟨by kernel_rfl⟩
instance : FS Try.prog 92 3 3 1 := ⟨by kernel_rfl⟩
instance : TZ Try.prog 92 [.bool false, .int .i64 0, .int .i64 0, .int .i64 0] := ⟨by kernel_rfl⟩
instance : TAgg Try.prog 93 6 := ⟨by kernel_rfl⟩
instance : TSt Try.prog 93 := ⟨by kernel_rfl⟩
instance : FS Try.prog 93 0 0 2 := ⟨by kernel_rfl⟩
instance : FS Try.prog 93 1 2 4 := ⟨by kernel_rfl⟩
instance : TZ Try.prog 93 [.int .i64 0, .int .i64 0, .bool false, .int .i64 0, .int .i64 0, .int .i64 0] := ⟨by kernel_rfl⟩
instance : TAgg Try.prog 94 6 := ⟨by kernel_rfl⟩
instance : TSt Try.prog 94 := ⟨by kernel_rfl⟩
instance : FS Try.prog 94 0 0 2 := ⟨by kernel_rfl⟩
instance : FS Try.prog 94 1 2 4 := ⟨by kernel_rfl⟩
instance : TZ Try.prog 94 [.int .i64 0, .int .i64 0, .bool false, .int .i64 0, .int .i64 0, .int .i64 0] := ⟨by kernel_rfl⟩
instance : TOne Try.prog 95 := ⟨by kernel_rfl⟩
instance : TSl Try.prog 95 33 11 88 := ⟨by kernel_rfl⟩
instance : TZ Try.prog 95 [.slice none 0 0] := ⟨by kernel_rfl⟩
instance : TOne Try.prog 97 := ⟨by kernel_rfl⟩
instance : TMap Try.prog 97 3 3 := ⟨by kernel_rfl⟩
instance : TZ Try.prog 97 [.map none] := ⟨by kernel_rfl⟩
instance : TOne Try.prog 98 := ⟨by kernel_rfl⟩
instance : TSl Try.prog 98 104 1 24 := ⟨by kernel_rfl⟩
instance : TZ Try.prog 98 [.slice none 0 0] := ⟨by kernel_rfl⟩
instance : TOne Try.prog 102 := ⟨by kernel_rfl⟩
instance : TSl Try.prog 102 106 7 48 := ⟨by kernel_rfl⟩
instance : TZ Try.prog 102 [.slice none 0 0] := ⟨by kernel_rfl⟩
instance : TAgg Try.prog 103 1 := ⟨by kernel_rfl⟩
instance : TSt Try.prog 103 := ⟨by kernel_rfl⟩
instance : FS Try.prog 103 0 0 1 := ⟨by kernel_rfl⟩
instance : TZ Try.prog 103 [.slice none 0 0] := ⟨by kernel_rfl⟩
instance : TAgg Try.prog 104 1 := ⟨by kernel_rfl⟩
instance : TSt Try.prog 104 := ⟨by kernel_rfl⟩
instance : FS Try.prog 104 0 0 1 := ⟨by kernel_rfl⟩
instance : TZ Try.prog 104 [.slice none 0 0] := ⟨by kernel_rfl⟩
instance : TAgg Try.prog 105 7 := ⟨by kernel_rfl⟩
instance : TSt Try.prog 105 := ⟨by kernel_rfl⟩
instance : FS Try.prog 105 0 0 1 := ⟨by kernel_rfl⟩
instance : FS Try.prog 105 1 1 1 := ⟨by kernel_rfl⟩
instance : FS Try.prog 105 2 2 1 := ⟨by kernel_rfl⟩
instance : FS Try.prog 105 3 3 1 := ⟨by kernel_rfl⟩
instance : FS Try.prog 105 4 4 1 := ⟨by kernel_rfl⟩
instance : FS Try.prog 105 5 5 1 := ⟨by kernel_rfl⟩
instance : FS Try.prog 105 6 6 1 := ⟨by kernel_rfl⟩
instance : TZ Try.prog 105 [.int .i64 0, .int .i64 0, .bool false, .bool false, .bool false, .string ByteArray.empty, .int .i64 0] := ⟨by kernel_rfl⟩
instance : TAgg Try.prog 106 7 := ⟨by kernel_rfl⟩
instance : TSt Try.prog 106 := ⟨by kernel_rfl⟩
instance : FS Try.prog 106 0 0 1 := ⟨by kernel_rfl⟩
instance : FS Try.prog 106 1 1 1 := ⟨by kernel_rfl⟩
instance : FS Try.prog 106 2 2 1 := ⟨by kernel_rfl⟩
instance : FS Try.prog 106 3 3 1 := ⟨by kernel_rfl⟩
instance : FS Try.prog 106 4 4 1 := ⟨by kernel_rfl⟩
instance : FS Try.prog 106 5 5 1 := ⟨by kernel_rfl⟩
instance : FS Try.prog 106 6 6 1 := ⟨by kernel_rfl⟩
instance : TZ Try.prog 106 [.int .i64 0, .int .i64 0, .bool false, .bool false, .bool false, .string ByteArray.empty, .int .i64 0] := ⟨by kernel_rfl⟩
instance : TOne Try.prog 108 := ⟨by kernel_rfl⟩
instance : TPtr Try.prog 108 223 := ⟨by kernel_rfl⟩
instance : TZ Try.prog 108 [.pointer none] := ⟨by kernel_rfl⟩
instance : TOne Try.prog 111 := ⟨by kernel_rfl⟩
instance : TPtr Try.prog 111 225 := ⟨by kernel_rfl⟩
instance : TZ Try.prog 111 [.pointer none] := ⟨by kernel_rfl⟩
instance : TOne Try.prog 113 := ⟨by kernel_rfl⟩
instance : TMap Try.prog 113 24 9 := ⟨by kernel_rfl⟩
instance : TZ Try.prog 113 [.map none] := ⟨by kernel_rfl⟩
instance : TOne Try.prog 116 := ⟨by kernel_rfl⟩
instance : TSl Try.prog 116 9 1 16 := ⟨by kernel_rfl⟩
instance : TZ Try.prog 116 [.slice none 0 0] := ⟨by kernel_rfl⟩
instance : TOne Try.prog 120 := ⟨by kernel_rfl⟩
instance : TPtr Try.prog 120 240 := ⟨by kernel_rfl⟩
instance : TZ Try.prog 120 [.pointer none] := ⟨by kernel_rfl⟩
instance : TAgg Try.prog 123 5 := ⟨by kernel_rfl⟩
instance : TSt Try.prog 123 := ⟨by kernel_rfl⟩
instance : FS Try.prog 123 0 0 1 := ⟨by kernel_rfl⟩
instance : FS Try.prog 123 1 1 1 := ⟨by kernel_rfl⟩
instance : FS Try.prog 123 2 2 1 := ⟨by kernel_rfl⟩
instance : FS Try.prog 123 3 3 1 := ⟨by kernel_rfl⟩
instance : FS Try.prog 123 4 4 1 := ⟨by kernel_rfl⟩
instance : TZ Try.prog 123 [.int .i64 0, .int .i64 0, .int .i64 0, .int .i64 0, .int .i64 0] := ⟨by kernel_rfl⟩
instance : TAgg Try.prog 124 5 := ⟨by kernel_rfl⟩
instance : TSt Try.prog 124 := ⟨by kernel_rfl⟩
instance : FS Try.prog 124 0 0 1 := ⟨by kernel_rfl⟩
instance : FS Try.prog 124 1 1 1 := ⟨by kernel_rfl⟩
instance : FS Try.prog 124 2 2 1 := ⟨by kernel_rfl⟩
instance : FS Try.prog 124 3 3 1 := ⟨by kernel_rfl⟩
instance : FS Try.prog 124 4 4 1 := ⟨by kernel_rfl⟩
instance : TZ Try.prog 124 [.int .i64 0, .int .i64 0, .int .i64 0, .int .i64 0, .int .i64 0] := ⟨by kernel_rfl⟩
instance : TAr Try.prog 126 3 3 1 := ⟨by kernel_rfl⟩
instance : TAgg Try.prog 126 3 := ⟨by kernel_rfl⟩
instance : TZ Try.prog 126 [.int .i64 0, .int .i64 0, .int .i64 0] := ⟨by kernel_rfl⟩
instance : TOne Try.prog 129 := ⟨by kernel_rfl⟩
instance : TSl Try.prog 129 137 5 40 := ⟨by kernel_rfl⟩
instance : TZ Try.prog 129 [.slice none 0 0] := ⟨by kernel_rfl⟩
instance : TAgg Try.prog 132 4 := ⟨by kernel_rfl⟩
instance : TSt Try.prog 132 := ⟨by kernel_rfl⟩
instance : FS Try.prog 132 0 0 1 := ⟨by kernel_rfl⟩
instance : FS Try.prog 132 1 1 1 := ⟨by kernel_rfl⟩
instance : FS Try.prog 132 2 2 1 := ⟨by kernel_rfl⟩
instance : FS Try.prog 132 3 3 1 := ⟨by kernel_rfl⟩
instance : TZ Try.prog 132 [.int .i64 0, .int .i64 0, .int .i64 0, .bool false] := ⟨by kernel_rfl⟩
instance : TAgg Try.prog 133 4 := ⟨by kernel_rfl⟩
instance : TSt Try.prog 133 := ⟨by kernel_rfl⟩
instance : FS Try.prog 133 0 0 1 := ⟨by kernel_rfl⟩
instance : FS Try.prog 133 1 1 1 := ⟨by kernel_rfl⟩
instance : FS Try.prog 133 2 2 1 := ⟨by kernel_rfl⟩
instance : FS Try.prog 133 3 3 1 := ⟨by kernel_rfl⟩
instance : TZ Try.prog 133 [.int .i64 0, .int .i64 0, .int .i64 0, .bool false] := ⟨by kernel_rfl⟩
instance : TAgg Try.prog 136 5 := ⟨by kernel_rfl⟩
instance : TSt Try.prog 136 := ⟨by kernel_rfl⟩
instance : FS Try.prog 136 0 0 1 := ⟨by kernel_rfl⟩
instance : FS Try.prog 136 1 1 4 := ⟨by kernel_rfl⟩
instance : TZ Try.prog 136 [.int .i64 0, .int .i64 0, .int .i64 0, .int .i64 0, .bool false] := ⟨by kernel_rfl⟩
instance : TAgg Try.prog 137 5 := ⟨by kernel_rfl⟩
instance : TSt Try.prog 137 := ⟨by kernel_rfl⟩
instance : FS Try.prog 137 0 0 1 := ⟨by kernel_rfl⟩
instance : FS Try.prog 137 1 1 4 := ⟨by kernel_rfl⟩
instance : TZ Try.prog 137 [.int .i64 0, .int .i64 0, .int .i64 0, .int .i64 0, .bool false] := ⟨by kernel_rfl⟩
instance : TOne Try.prog 140 := ⟨by kernel_rfl⟩
instance : TPtr Try.prog 140 143 := ⟨by kernel_rfl⟩
instance : TZ Try.prog 140 [.pointer none] := ⟨by kernel_rfl⟩
instance : TOne Try.prog 141 := ⟨by kernel_rfl⟩
instance : TSl Try.prog 141 5 1 1 := ⟨by kernel_rfl⟩
instance : TZ Try.prog 141 [.slice none 0 0] := ⟨by kernel_rfl⟩
instance : TAgg Try.prog 142 2 := ⟨by kernel_rfl⟩
instance : TSt Try.prog 142 := ⟨by kernel_rfl⟩
instance : FS Try.prog 142 0 0 1 := ⟨by kernel_rfl⟩
instance : FS Try.prog 142 1 1 1 := ⟨by kernel_rfl⟩
instance : TZ Try.prog 142 [.pointer none, .slice none 0 0] := ⟨by kernel_rfl⟩
instance : TAgg Try.prog 143 2 := ⟨by kernel_rfl⟩
instance : TSt Try.prog 143 := ⟨by kernel_rfl⟩
instance : FS Try.prog 143 0 0 1 := ⟨by kernel_rfl⟩
instance : FS Try.prog 143 1 1 1 := ⟨by kernel_rfl⟩
instance : TZ Try.prog 143 [.pointer none, .slice none 0 0] := ⟨by kernel_rfl⟩
instance : TAgg Try.prog 144 2 := ⟨by kernel_rfl⟩
instance : TSt Try.prog 144 := ⟨by kernel_rfl⟩
instance : FS Try.prog 144 0 0 2 := ⟨by kernel_rfl⟩
instance : TZ Try.prog 144 [.pointer none, .slice none 0 0] := ⟨by kernel_rfl⟩
instance : TAgg Try.prog 145 2 := ⟨by kernel_rfl⟩
instance : TSt Try.prog 145 := ⟨by kernel_rfl⟩
instance : FS Try.prog 145 0 0 2 := ⟨by kernel_rfl⟩
instance : TZ Try.prog 145 [.pointer none, .slice none 0 0] := ⟨by kernel_rfl⟩
instance : TOne Try.prog 146 := ⟨by kernel_rfl⟩
instance : TPtr Try.prog 146 145 := ⟨by kernel_rfl⟩
instance : TZ Try.prog 146 [.pointer none] := ⟨by kernel_rfl⟩
instance : TOne Try.prog 150 := ⟨by kernel_rfl⟩
instance : TInt Try.prog 150 .u64 := ⟨by kernel_rfl⟩
instance : TZV Try.prog 150 (.int .u64 0) := ⟨by kernel_rfl⟩
instance : TZ Try.prog 150 [.int .u64 0] := ⟨by kernel_rfl⟩
instance : TOne Try.prog 151 := ⟨by kernel_rfl⟩
instance : TPtr Try.prog 151 260 := ⟨by kernel_rfl⟩
instance : TZ Try.prog 151 [.pointer none] := ⟨by kernel_rfl⟩
instance : TAgg Try.prog 163 7 := ⟨by kernel_rfl⟩
instance : TSt Try.prog 163 := ⟨by kernel_rfl⟩
instance : FS Try.prog 163 0 0 1 := ⟨by kernel_rfl⟩
instance : FS Try.prog 163 1 1 1 := ⟨by kernel_rfl⟩
instance : FS Try.prog 163 2 2 1 := ⟨by kernel_rfl⟩
instance : FS Try.prog 163 3 3 1 := ⟨by kernel_rfl⟩
instance : FS Try.prog 163 4 4 1 := ⟨by kernel_rfl⟩
instance : FS Try.prog 163 5 5 1 := ⟨by kernel_rfl⟩
instance : FS Try.prog 163 6 6 1 := ⟨by kernel_rfl⟩
instance : TZ Try.prog 163 [.bool false, .bool false, .int .i64 0, .int .i64 0, .bool false, .int .i64 0, .int .i64 0] := ⟨by kernel_rfl⟩
instance : TAgg Try.prog 164 7 := ⟨by kernel_rfl⟩
instance : TSt Try.prog 164 := ⟨by kernel_rfl⟩
instance : FS Try.prog 164 0 0 1 := ⟨by kernel_rfl⟩
instance : FS Try.prog 164 1 1 1 := ⟨by kernel_rfl⟩
instance : FS Try.prog 164 2 2 1 := ⟨by kernel_rfl⟩
instance : FS Try.prog 164 3 3 1 := ⟨by kernel_rfl⟩
instance : FS Try.prog 164 4 4 1 := ⟨by kernel_rfl⟩
instance : FS Try.prog 164 5 5 1 := ⟨by kernel_rfl⟩
instance : FS Try.prog 164 6 6 1 := ⟨by kernel_rfl⟩
instance : TZ Try.prog 164 [.bool false, .bool false, .int .i64 0, .int .i64 0, .bool false, .int .i64 0, .int .i64 0] := ⟨by kernel_rfl⟩
instance : TAgg Try.prog 165 6 := ⟨by kernel_rfl⟩
instance : TSt Try.prog 165 := ⟨by kernel_rfl⟩
instance : FS Try.prog 165 0 0 2 := ⟨by kernel_rfl⟩
instance : FS Try.prog 165 1 2 1 := ⟨by kernel_rfl⟩
instance : FS Try.prog 165 2 3 1 := ⟨by kernel_rfl⟩
instance : FS Try.prog 165 3 4 1 := ⟨by kernel_rfl⟩
instance : FS Try.prog 165 4 5 1 := ⟨by kernel_rfl⟩
instance : TZ Try.prog 165 [.int .i64 0, .int .i64 0, .bool false, .int .i64 0, .int .i64 0, .int .i64 0] := ⟨by kernel_rfl⟩
instance : TAgg Try.prog 166 6 := ⟨by kernel_rfl⟩
instance : TSt Try.prog 166 := ⟨by kernel_rfl⟩
instance : FS Try.prog 166 0 0 2 := ⟨by kernel_rfl⟩
instance : FS Try.prog 166 1 2 1 := ⟨by kernel_rfl⟩
instance : FS Try.prog 166 2 3 1 := ⟨by kernel_rfl⟩
instance : FS Try.prog 166 3 4 1 := ⟨by kernel_rfl⟩
instance : FS Try.prog 166 4 5 1 := ⟨by kernel_rfl⟩
instance : TZ Try.prog 166 [.int .i64 0, .int .i64 0, .bool false, .int .i64 0, .int .i64 0, .int .i64 0] := ⟨by kernel_rfl⟩
instance : TOne Try.prog 167 := ⟨by kernel_rfl⟩
instance : TSl Try.prog 167 175 2 16 := ⟨by kernel_rfl⟩
instance : TZ Try.prog 167 [.slice none 0 0] := ⟨by kernel_rfl⟩
instance : TAgg Try.prog 168 5 := ⟨by kernel_rfl⟩
instance : TSt Try.prog 168 := ⟨by kernel_rfl⟩
instance : FS Try.prog 168 0 0 1 := ⟨by kernel_rfl⟩
instance : FS Try.prog 168 1 1 1 := ⟨by kernel_rfl⟩
instance : FS Try.prog 168 2 2 1 := ⟨by kernel_rfl⟩
instance : FS Try.prog 168 3 3 1 := ⟨by kernel_rfl⟩
instance : FS Try.prog 168 4 4 1 := ⟨by kernel_rfl⟩
instance : TZ Try.prog 168 [.int .i64 0, .slice none 0 0, .int .i64 0, .int .i64 0, .int .i64 0] := ⟨by kernel_rfl⟩
instance : TAgg Try.prog 169 5 := ⟨by kernel_rfl⟩
instance : TSt Try.prog 169 := ⟨by kernel_rfl⟩
instance : FS Try.prog 169 0 0 1 := ⟨by kernel_rfl⟩
instance : FS Try.prog 169 1 1 1 := ⟨by kernel_rfl⟩
instance : FS Try.prog 169 2 2 1 := ⟨by kernel_rfl⟩
instance : FS Try.prog 169 3 3 1 := ⟨by kernel_rfl⟩
instance : FS Try.prog 169 4 4 1 := ⟨by kernel_rfl⟩
instance : TZ Try.prog 169 [.int .i64 0, .slice none 0 0, .int .i64 0, .int .i64 0, .int .i64 0] := ⟨by kernel_rfl⟩
instance : TAgg Try.prog 172 9 := ⟨by kernel_rfl⟩
instance : TSt Try.prog 172 := ⟨by kernel_rfl⟩
instance : FS Try.prog 172 0 0 3 := ⟨by kernel_rfl⟩
instance : FS Try.prog 172 1 3 1 := ⟨by kernel_rfl⟩
instance : FS Try.prog 172 2 4 1 := ⟨by kernel_rfl⟩
instance : FS Try.prog 172 3 5 1 := ⟨by kernel_rfl⟩
instance : FS Try.prog 172 4 6 1 := ⟨by kernel_rfl⟩
instance : FS Try.prog 172 5 7 1 := ⟨by kernel_rfl⟩
instance : FS Try.prog 172 6 8 1 := ⟨by kernel_rfl⟩
instance : TZ Try.prog 172 [.int .i64 0, .int .i64 0, .int .i64 0, .slice none 0 0, .int .i64 0, .int .i64 0, .int .i64 0, .int .i64 0, .int .i64 0] := ⟨by kernel_rfl⟩
instance : TAgg Try.prog 173 9 := ⟨by kernel_rfl⟩
instance : TSt Try.prog 173 := ⟨by kernel_rfl⟩
instance : FS Try.prog 173 0 0 3 := ⟨by kernel_rfl⟩
instance : FS Try.prog 173 1 3 1 := ⟨by kernel_rfl⟩
instance : FS Try.prog 173 2 4 1 := ⟨by kernel_rfl⟩
instance : FS Try.prog 173 3 5 1 := ⟨by kernel_rfl⟩
instance : FS Try.prog 173 4 6 1 := ⟨by kernel_rfl⟩
instance : FS Try.prog 173 5 7 1 := ⟨by kernel_rfl⟩
instance : FS Try.prog 173 6 8 1 := ⟨by kernel_rfl⟩
instance : TZ Try.prog 173 [.int .i64 0, .int .i64 0, .int .i64 0, .slice none 0 0, .int .i64 0, .int .i64 0, .int .i64 0, .int .i64 0, .int .i64 0] := ⟨by kernel_rfl⟩
instance : TAgg Try.prog 174 2 := ⟨by kernel_rfl⟩
instance : TSt Try.prog 174 := ⟨by kernel_rfl⟩
instance : FS Try.prog 174 0 0 1 := ⟨by kernel_rfl⟩
instance : FS Try.prog 174 1 1 1 := ⟨by kernel_rfl⟩
instance : TZ Try.prog 174 [.int .i64 0, .int .i64 0] := ⟨by kernel_rfl⟩
instance : TAgg Try.prog 175 2 := ⟨by kernel_rfl⟩
instance : TSt Try.prog 175 := ⟨by kernel_rfl⟩
instance : FS Try.prog 175 0 0 1 := ⟨by kernel_rfl⟩
instance : FS Try.prog 175 1 1 1 := ⟨by kernel_rfl⟩
instance : TZ Try.prog 175 [.int .i64 0, .int .i64 0] := ⟨by kernel_rfl⟩
instance : TOne Try.prog 178 := ⟨by kernel_rfl⟩
instance : TZ Try.prog 178 [.nilIface] := ⟨by kernel_rfl⟩
instance : TOne Try.prog 179 := ⟨by kernel_rfl⟩
instance : TZ Try.prog 179 [.nilIface] := ⟨by kernel_rfl⟩
instance : TAgg Try.prog 185 2 := ⟨by kernel_rfl⟩
instance : TSt Try.prog 185 := ⟨by kernel_rfl⟩
instance : FS Try.prog 185 0 0 1 := ⟨by kernel_rfl⟩
instance : FS Try.prog 185 1 1 1 := ⟨by kernel_rfl⟩
instance : TZ Try.prog 185 [.int .u16 0, .int .u16 0] := ⟨by kernel_rfl⟩
instance : TAgg Try.prog 186 2 := ⟨by kernel_rfl⟩
instance : TSt Try.prog 186 := ⟨by kernel_rfl⟩
instance : FS Try.prog 186 0 0 1 := ⟨by kernel_rfl⟩
instance : FS Try.prog 186 1 1 1 := ⟨by kernel_rfl⟩
instance : TZ Try.prog 186 [.int .u16 0, .int .u16 0] := ⟨by kernel_rfl⟩
instance : TOne Try.prog 188 := ⟨by kernel_rfl⟩
instance : TSl Try.prog 188 192 2 8 := ⟨by kernel_rfl⟩
instance : TZ Try.prog 188 [.slice none 0 0] := ⟨by kernel_rfl⟩
instance : TAgg Try.prog 189 2 := ⟨by kernel_rfl⟩
instance : TSt Try.prog 189 := ⟨by kernel_rfl⟩
instance : FS Try.prog 189 0 0 1 := ⟨by kernel_rfl⟩
instance : FS Try.prog 189 1 1 1 := ⟨by kernel_rfl⟩
instance : TZ Try.prog 189 [.int .u32 0, .slice none 0 0] := ⟨by kernel_rfl⟩
instance : TAgg Try.prog 190 2 := ⟨by kernel_rfl⟩
instance : TSt Try.prog 190 := ⟨by kernel_rfl⟩
instance : FS Try.prog 190 0 0 1 := ⟨by kernel_rfl⟩
instance : FS Try.prog 190 1 1 1 := ⟨by kernel_rfl⟩
instance : TZ Try.prog 190 [.int .u32 0, .slice none 0 0] := ⟨by kernel_rfl⟩
instance : TAgg Try.prog 191 2 := ⟨by kernel_rfl⟩
instance : TSt Try.prog 191 := ⟨by kernel_rfl⟩
instance : FS Try.prog 191 0 0 1 := ⟨by kernel_rfl⟩
instance : FS Try.prog 191 1 1 1 := ⟨by kernel_rfl⟩
instance : TZ Try.prog 191 [.int .u32 0, .int .u8 0] := ⟨by kernel_rfl⟩
instance : TAgg Try.prog 192 2 := ⟨by kernel_rfl⟩
instance : TSt Try.prog 192 := ⟨by kernel_rfl⟩
instance : FS Try.prog 192 0 0 1 := ⟨by kernel_rfl⟩
instance : FS Try.prog 192 1 1 1 := ⟨by kernel_rfl⟩
instance : TZ Try.prog 192 [.int .u32 0, .int .u8 0] := ⟨by kernel_rfl⟩
instance : TAgg Try.prog 193 3 := ⟨by kernel_rfl⟩
instance : TSt Try.prog 193 := ⟨by kernel_rfl⟩
instance : FS Try.prog 193 0 0 1 := ⟨by kernel_rfl⟩
instance : FS Try.prog 193 1 1 1 := ⟨by kernel_rfl⟩
instance : FS Try.prog 193 2 2 1 := ⟨by kernel_rfl⟩
instance : TZ Try.prog 193 [.int .u32 0, .int .u64 0, .slice none 0 0] := ⟨by kernel_rfl⟩
instance : TAgg Try.prog 194 3 := ⟨by kernel_rfl⟩
instance : TSt Try.prog 194 := ⟨by kernel_rfl⟩
instance : FS Try.prog 194 0 0 1 := ⟨by kernel_rfl⟩
instance : FS Try.prog 194 1 1 1 := ⟨by kernel_rfl⟩
instance : FS Try.prog 194 2 2 1 := ⟨by kernel_rfl⟩
instance : TZ Try.prog 194 [.int .u32 0, .int .u64 0, .slice none 0 0] := ⟨by kernel_rfl⟩
instance : TAgg Try.prog 196 2 := ⟨by kernel_rfl⟩
instance : TSt Try.prog 196 := ⟨by kernel_rfl⟩
instance : FS Try.prog 196 0 0 1 := ⟨by kernel_rfl⟩
instance : FS Try.prog 196 1 1 1 := ⟨by kernel_rfl⟩
instance : TZ Try.prog 196 [.slice none 0 0, .string ByteArray.empty] := ⟨by kernel_rfl⟩
instance : TAgg Try.prog 197 2 := ⟨by kernel_rfl⟩
instance : TSt Try.prog 197 := ⟨by kernel_rfl⟩
instance : FS Try.prog 197 0 0 1 := ⟨by kernel_rfl⟩
instance : FS Try.prog 197 1 1 1 := ⟨by kernel_rfl⟩
instance : TZ Try.prog 197 [.slice none 0 0, .string ByteArray.empty] := ⟨by kernel_rfl⟩
instance : TOne Try.prog 198 := ⟨by kernel_rfl⟩
instance : TPtr Try.prog 198 281 := ⟨by kernel_rfl⟩
instance : TZ Try.prog 198 [.pointer none] := ⟨by kernel_rfl⟩
instance : TOne Try.prog 201 := ⟨by kernel_rfl⟩
instance : TPtr Try.prog 201 283 := ⟨by kernel_rfl⟩
instance : TZ Try.prog 201 [.pointer none] := ⟨by kernel_rfl⟩
instance : TOne Try.prog 204 := ⟨by kernel_rfl⟩
instance : TMap Try.prog 204 2 33 := ⟨by kernel_rfl⟩
instance : TZ Try.prog 204 [.map none] := ⟨by kernel_rfl⟩
instance : TAgg Try.prog 205 5 := ⟨by kernel_rfl⟩
instance : TSt Try.prog 205 := ⟨by kernel_rfl⟩
instance : FS Try.prog 205 0 0 1 := ⟨by kernel_rfl⟩
instance : FS Try.prog 205 1 1 1 := ⟨by kernel_rfl⟩
instance : FS Try.prog 205 2 2 1 := ⟨by kernel_rfl⟩
instance : FS Try.prog 205 3 3 1 := ⟨by kernel_rfl⟩
instance : FS Try.prog 205 4 4 1 := ⟨by kernel_rfl⟩
instance : TZ Try.prog 205 [.bool false, .int .i64 0, .int .u16 0, .int .i64 0, .int .i64 0] := ⟨by kernel_rfl⟩
instance : TAgg Try.prog 206 5 := ⟨by kernel_rfl⟩
instance : TSt Try.prog 206 := ⟨by kernel_rfl⟩
instance : FS Try.prog 206 0 0 1 := ⟨by kernel_rfl⟩
instance : FS Try.prog 206 1 1 1 := ⟨by kernel_rfl⟩
instance : FS Try.prog 206 2 2 1 := ⟨by kernel_rfl⟩
instance : FS Try.prog 206 3 3 1 := ⟨by kernel_rfl⟩
instance : FS Try.prog 206 4 4 1 := ⟨by kernel_rfl⟩
instance : TZ Try.prog 206 [.bool false, .int .i64 0, .int .u16 0, .int .i64 0, .int .i64 0] := ⟨by kernel_rfl⟩
instance : TAgg Try.prog 207 2 := ⟨by kernel_rfl⟩
instance : TSt Try.prog 207 := ⟨by kernel_rfl⟩
instance : FS Try.prog 207 0 0 1 := ⟨by kernel_rfl⟩
instance : FS Try.prog 207 1 1 1 := ⟨by kernel_rfl⟩
instance : TZ Try.prog 207 [.bool false, .int .i64 0] := ⟨by kernel_rfl⟩
instance : TAgg Try.prog 208 2 := ⟨by kernel_rfl⟩
instance : TSt Try.prog 208 := ⟨by kernel_rfl⟩
instance : FS Try.prog 208 0 0 1 := ⟨by kernel_rfl⟩
instance : FS Try.prog 208 1 1 1 := ⟨by kernel_rfl⟩
instance : TZ Try.prog 208 [.bool false, .int .i64 0] := ⟨by kernel_rfl⟩
instance : TAgg Try.prog 209 12 := ⟨by kernel_rfl⟩
instance : TSt Try.prog 209 := ⟨by kernel_rfl⟩
instance : FS Try.prog 209 0 0 1 := ⟨by kernel_rfl⟩
instance : FS Try.prog 209 1 1 1 := ⟨by kernel_rfl⟩
instance : FS Try.prog 209 2 2 5 := ⟨by kernel_rfl⟩
instance : FS Try.prog 209 3 7 2 := ⟨by kernel_rfl⟩
instance : FS Try.prog 209 4 9 1 := ⟨by kernel_rfl⟩
instance : FS Try.prog 209 5 10 1 := ⟨by kernel_rfl⟩
instance : FS Try.prog 209 6 11 1 := ⟨by kernel_rfl⟩
instance : TZ Try.prog 209 [.pointer none, .pointer none, .bool false, .int .i64 0, .int .u16 0, .int .i64 0, .int .i64 0, .bool false, .int .i64 0, .map none, .int .i64 0, .int .i64 0] := ⟨by kernel_rfl⟩
instance : TAgg Try.prog 210 12 := ⟨by kernel_rfl⟩
instance : TSt Try.prog 210 := ⟨by kernel_rfl⟩
instance : FS Try.prog 210 0 0 1 := ⟨by kernel_rfl⟩
instance : FS Try.prog 210 1 1 1 := ⟨by kernel_rfl⟩
instance : FS Try.prog 210 2 2 5 := ⟨by kernel_rfl⟩
instance : FS Try.prog 210 3 7 2 := ⟨by kernel_rfl⟩
instance : FS Try.prog 210 4 9 1 := ⟨by kernel_rfl⟩
instance : FS Try.prog 210 5 10 1 := ⟨by kernel_rfl⟩
instance : FS Try.prog 210 6 11 1 := ⟨by kernel_rfl⟩
instance : TZ Try.prog 210 [.pointer none, .pointer none, .bool false, .int .i64 0, .int .u16 0, .int .i64 0, .int .i64 0, .bool false, .int .i64 0, .map none, .int .i64 0, .int .i64 0] := ⟨by kernel_rfl⟩
instance : TOne Try.prog 214 := ⟨by kernel_rfl⟩
instance : TSl Try.prog 214 218 3 32 := ⟨by kernel_rfl⟩
instance : TZ Try.prog 214 [.slice none 0 0] := ⟨by kernel_rfl⟩
instance : TAgg Try.prog 217 3 := ⟨by kernel_rfl⟩
instance : TSt Try.prog 217 := ⟨by kernel_rfl⟩
instance : FS Try.prog 217 0 0 1 := ⟨by kernel_rfl⟩
instance : FS Try.prog 217 1 1 1 := ⟨by kernel_rfl⟩
instance : FS Try.prog 217 2 2 1 := ⟨by kernel_rfl⟩
instance : TZ Try.prog 217 [.int .i64 0, .string ByteArray.empty, .int .i64 0] := ⟨by kernel_rfl⟩
instance : TAgg Try.prog 218 3 := ⟨by kernel_rfl⟩
instance : TSt Try.prog 218 := ⟨by kernel_rfl⟩
instance : FS Try.prog 218 0 0 1 := ⟨by kernel_rfl⟩
instance : FS Try.prog 218 1 1 1 := ⟨by kernel_rfl⟩
instance : FS Try.prog 218 2 2 1 := ⟨by kernel_rfl⟩
instance : TZ Try.prog 218 [.int .i64 0, .string ByteArray.empty, .int .i64 0] := ⟨by kernel_rfl⟩
instance : TOne Try.prog 221 := ⟨by kernel_rfl⟩
instance : TSl Try.prog 221 231 5 40 := ⟨by kernel_rfl⟩
instance : TZ Try.prog 221 [.slice none 0 0] := ⟨by kernel_rfl⟩
instance : TAgg Try.prog 222 5 := ⟨by kernel_rfl⟩
instance : TSt Try.prog 222 := ⟨by kernel_rfl⟩
instance : FS Try.prog 222 0 0 1 := ⟨by kernel_rfl⟩
instance : FS Try.prog 222 1 1 1 := ⟨by kernel_rfl⟩
instance : FS Try.prog 222 2 2 1 := ⟨by kernel_rfl⟩
instance : FS Try.prog 222 3 3 1 := ⟨by kernel_rfl⟩
instance : FS Try.prog 222 4 4 1 := ⟨by kernel_rfl⟩
instance : TZ Try.prog 222 [.slice none 0 0, .int .i64 0, .int .i64 0, .int .i64 0, .int .i64 0] := ⟨by kernel_rfl⟩
instance : TAgg Try.prog 223 5 := ⟨by kernel_rfl⟩
instance : TSt Try.prog 223 := ⟨by kernel_rfl⟩
instance : FS Try.prog 223 0 0 1 := ⟨by kernel_rfl⟩
instance : FS Try.prog 223 1 1 1 := ⟨by kernel_rfl⟩
instance : FS Try.prog 223 2 2 1 := ⟨by kernel_rfl⟩
instance : FS Try.prog 223 3 3 1 := ⟨by kernel_rfl⟩
instance : FS Try.prog 223 4 4 1 := ⟨by kernel_rfl⟩
instance : TZ Try.prog 223 [.slice none 0 0, .int .i64 0, .int .i64 0, .int .i64 0, .int .i64 0] := ⟨by kernel_rfl⟩
instance : TAgg Try.prog 224 13 := ⟨by kernel_rfl⟩
instance : TSt Try.prog 224 := ⟨by kernel_rfl⟩
instance : FS Try.prog 224 0 0 1 := ⟨by kernel_rfl⟩
instance : FS Try.prog 224 1 1 1 := ⟨by kernel_rfl⟩
instance : FS Try.prog 224 2 2 1 := ⟨by kernel_rfl⟩
instance : FS Try.prog 224 3 3 1 := ⟨by kernel_rfl⟩
instance : FS Try.prog 224 4 4 1 := ⟨by kernel_rfl⟩
instance : FS Try.prog 224 5 5 1 := ⟨by kernel_rfl⟩
instance : FS Try.prog 224 6 6 1 := ⟨by kernel_rfl⟩
instance : FS Try.prog 224 7 7 1 := ⟨by kernel_rfl⟩
instance : FS Try.prog 224 8 8 1 := ⟨by kernel_rfl⟩
instance : FS Try.prog 224 9 9 1 := ⟨by kernel_rfl⟩
instance : FS Try.prog 224 10 10 1 := ⟨by kernel_rfl⟩
instance : FS Try.prog 224 11 11 1 := ⟨by kernel_rfl⟩
instance : FS Try.prog 224 12 12 1 := ⟨by kernel_rfl⟩
instance : TZ Try.prog 224 [.bool false, .int .u32 0, .int .u8 0, .int .u16 0, .int .i64 0, .int .i64 0, .int .i64 0, .int .i64 0, .int .i64 0, .bool false, .int .i64 0, .int .i64 0, .int .i64 0] := ⟨by kernel_rfl⟩
instance : TAgg Try.prog 225 13 := ⟨by kernel_rfl⟩
instance : TSt Try.prog 225 := ⟨by kernel_rfl⟩
instance : FS Try.prog 225 0 0 1 := ⟨by kernel_rfl⟩
instance : FS Try.prog 225 1 1 1 := ⟨by kernel_rfl⟩
instance : FS Try.prog 225 2 2 1 := ⟨by kernel_rfl⟩
instance : FS Try.prog 225 3 3 1 := ⟨by kernel_rfl⟩
instance : FS Try.prog 225 4 4 1 := ⟨by kernel_rfl⟩
instance : FS Try.prog 225 5 5 1 := ⟨by kernel_rfl⟩
instance : FS Try.prog 225 6 6 1 := ⟨by kernel_rfl⟩
instance : FS Try.prog 225 7 7 1 := ⟨by kernel_rfl⟩
instance : FS Try.prog 225 8 8 1 := ⟨by kernel_rfl⟩
instance : FS Try.prog 225 9 9 1 := ⟨by kernel_rfl⟩
instance : FS Try.prog 225 10 10 1 := ⟨by kernel_rfl⟩
instance : FS Try.prog 225 11 11 1 := ⟨by kernel_rfl⟩
instance : FS Try.prog 225 12 12 1 := ⟨by kernel_rfl⟩
instance : TZ Try.prog 225 [.bool false, .int .u32 0, .int .u8 0, .int .u16 0, .int .i64 0, .int .i64 0, .int .i64 0, .int .i64 0, .int .i64 0, .bool false, .int .i64 0, .int .i64 0, .int .i64 0] := ⟨by kernel_rfl⟩
instance : TAgg Try.prog 230 5 := ⟨by kernel_rfl⟩
instance : TSt Try.prog 230 := ⟨by kernel_rfl⟩
instance : FS Try.prog 230 0 0 1 := ⟨by kernel_rfl⟩
instance : FS Try.prog 230 1 1 1 := ⟨by kernel_rfl⟩
instance : FS Try.prog 230 2 2 1 := ⟨by kernel_rfl⟩
instance : FS Try.prog 230 3 3 1 := ⟨by kernel_rfl⟩
instance : FS Try.prog 230 4 4 1 := ⟨by kernel_rfl⟩
instance : TZ Try.prog 230 [.bool false, .int .u16 0, .string ByteArray.empty, .int .i64 0, .int .i64 0] := ⟨by kernel_rfl⟩
instance : TAgg Try.prog 231 5 := ⟨by kernel_rfl⟩
instance : TSt Try.prog 231 := ⟨by kernel_rfl⟩
instance : FS Try.prog 231 0 0 1 := ⟨by kernel_rfl⟩
instance : FS Try.prog 231 1 1 1 := ⟨by kernel_rfl⟩
instance : FS Try.prog 231 2 2 1 := ⟨by kernel_rfl⟩
instance : FS Try.prog 231 3 3 1 := ⟨by kernel_rfl⟩
instance : FS Try.prog 231 4 4 1 := ⟨by kernel_rfl⟩
instance : TZ Try.prog 231 [.bool false, .int .u16 0, .string ByteArray.empty, .int .i64 0, .int .i64 0] := ⟨by kernel_rfl⟩
instance : TOne Try.prog 235 := ⟨by kernel_rfl⟩
instance : TPtr Try.prog 235 295 := ⟨by kernel_rfl⟩
instance : TZ Try.prog 235 [.pointer none] := ⟨by kernel_rfl⟩
instance : TOne Try.prog 238 := ⟨by kernel_rfl⟩
instance : TMap Try.prog 238 3 243 := ⟨by kernel_rfl⟩
instance : TZ Try.prog 238 [.map none] := ⟨by kernel_rfl⟩
instance : TAgg Try.prog 239 9 := ⟨by kernel_rfl⟩
instance : TSt Try.prog 239 := ⟨by kernel_rfl⟩
instance : FS Try.prog 239 0 0 5 := ⟨by kernel_rfl⟩
instance : FS Try.prog 239 1 5 1 := ⟨by kernel_rfl⟩
instance : FS Try.prog 239 2 6 1 := ⟨by kernel_rfl⟩
instance : FS Try.prog 239 3 7 1 := ⟨by kernel_rfl⟩
instance : FS Try.prog 239 4 8 1 := ⟨by kernel_rfl⟩
instance : TZ Try.prog 239 [.int .i64 0, .int .i64 0, .int .i64 0, .int .i64 0, .int .i64 0, .map none, .pointer none, .int .i64 0, .int .i64 0] := ⟨by kernel_rfl⟩
instance : TAgg Try.prog 240 9 := ⟨by kernel_rfl⟩
instance : TSt Try.prog 240 := ⟨by kernel_rfl⟩
instance : FS Try.prog 240 0 0 5 := ⟨by kernel_rfl⟩
instance : FS Try.prog 240 1 5 1 := ⟨by kernel_rfl⟩
instance : FS Try.prog 240 2 6 1 := ⟨by kernel_rfl⟩
instance : FS Try.prog 240 3 7 1 := ⟨by kernel_rfl⟩
instance : FS Try.prog 240 4 8 1 := ⟨by kernel_rfl⟩
instance : TZ Try.prog 240 [.int .i64 0, .int .i64 0, .int .i64 0, .int .i64 0, .int .i64 0, .map none, .pointer none, .int .i64 0, .int .i64 0] := ⟨by kernel_rfl⟩
instance : TOne Try.prog 241 := ⟨by kernel_rfl⟩
instance : TPtr Try.prog 241 297 := ⟨by kernel_rfl⟩
instance : TZ Try.prog 241 [.pointer none] := ⟨by kernel_rfl⟩
instance : TAgg Try.prog 242 2 := ⟨by kernel_rfl⟩
instance : TSt Try.prog 242 := ⟨by kernel_rfl⟩
instance : FS Try.prog 242 0 0 1 := ⟨by kernel_rfl⟩
instance : FS Try.prog 242 1 1 1 := ⟨by kernel_rfl⟩
instance : TZ Try.prog 242 [.pointer none, .bool false] := ⟨by kernel_rfl⟩
instance : TAgg Try.prog 243 2 := ⟨by kernel_rfl⟩
instance : TSt Try.prog 243 := ⟨by kernel_rfl⟩
instance : FS Try.prog 243 0 0 1 := ⟨by kernel_rfl⟩
instance : FS Try.prog 243 1 1 1 := ⟨by kernel_rfl⟩
instance : TZ Try.prog 243 [.pointer none, .bool false] := ⟨by kernel_rfl⟩
instance : TOne Try.prog 248 := ⟨by kernel_rfl⟩
instance : TSl Try.prog 248 133 4 32 := ⟨by kernel_rfl⟩
instance : TZ Try.prog 248 [.slice none 0 0] := ⟨by kernel_rfl⟩
instance : TOne Try.prog 254 := ⟨by kernel_rfl⟩
instance : TZ Try.prog 254 [.nilIface] := ⟨by kernel_rfl⟩
instance : TOne Try.prog 255 := ⟨by kernel_rfl⟩
instance : TZ Try.prog 255 [.nilIface] := ⟨by kernel_rfl⟩
instance : TAgg Try.prog 259 2 := ⟨by kernel_rfl⟩
instance : TSt Try.prog 259 := ⟨by kernel_rfl⟩
instance : FS Try.prog 259 0 0 1 := ⟨by kernel_rfl⟩
instance : FS Try.prog 259 1 1 1 := ⟨by kernel_rfl⟩
instance : TZ Try.prog 259 [.string ByteArray.empty, .int .i64 0] := ⟨by kernel_rfl⟩
instance : TAgg Try.prog 260 2 := ⟨by kernel_rfl⟩
instance : TSt Try.prog 260 := ⟨by kernel_rfl⟩
instance : FS Try.prog 260 0 0 1 := ⟨by kernel_rfl⟩
instance : FS Try.prog 260 1 1 1 := ⟨by kernel_rfl⟩
instance : TZ Try.prog 260 [.string ByteArray.empty, .int .i64 0] := ⟨by kernel_rfl⟩
instance : TOne Try.prog 263 := ⟨by kernel_rfl⟩
instance : TPtr Try.prog 263 23 := ⟨by kernel_rfl⟩
instance : TZ Try.prog 263 [.pointer none] := ⟨by kernel_rfl⟩
instance : TOne Try.prog 264 := ⟨by kernel_rfl⟩
instance : TSl Try.prog 264 309 7 28 := ⟨by kernel_rfl⟩
instance : TZ Try.prog 264 [.slice none 0 0] := ⟨by kernel_rfl⟩
instance : TAgg Try.prog 266 6 := ⟨by kernel_rfl⟩
instance : TSt Try.prog 266 := ⟨by kernel_rfl⟩
instance : FS Try.prog 266 0 0 1 := ⟨by kernel_rfl⟩
instance : FS Try.prog 266 1 1 1 := ⟨by kernel_rfl⟩
instance : FS Try.prog 266 2 2 1 := ⟨by kernel_rfl⟩
instance : FS Try.prog 266 3 3 1 := ⟨by kernel_rfl⟩
instance : FS Try.prog 266 4 4 1 := ⟨by kernel_rfl⟩
instance : FS Try.prog 266 5 5 1 := ⟨by kernel_rfl⟩
instance : TZ Try.prog 266 [.int .u32 0, .int .u64 0, .int .u32 0, .int .u32 0, .int .u32 0, .slice none 0 0] := ⟨by kernel_rfl⟩
instance : TAgg Try.prog 267 6 := ⟨by kernel_rfl⟩
instance : TSt Try.prog 267 := ⟨by kernel_rfl⟩
instance : FS Try.prog 267 0 0 1 := ⟨by kernel_rfl⟩
instance : FS Try.prog 267 1 1 1 := ⟨by kernel_rfl⟩
instance : FS Try.prog 267 2 2 1 := ⟨by kernel_rfl⟩
instance : FS Try.prog 267 3 3 1 := ⟨by kernel_rfl⟩
instance : FS Try.prog 267 4 4 1 := ⟨by kernel_rfl⟩
instance : FS Try.prog 267 5 5 1 := ⟨by kernel_rfl⟩
instance : TZ Try.prog 267 [.int .u32 0, .int .u64 0, .int .u32 0, .int .u32 0, .int .u32 0, .slice none 0 0] := ⟨by kernel_rfl⟩
instance : TAgg Try.prog 268 2 := ⟨by kernel_rfl⟩
instance : TSt Try.prog 268 := ⟨by kernel_rfl⟩
instance : FS Try.prog 268 0 0 1 := ⟨by kernel_rfl⟩
instance : FS Try.prog 268 1 1 1 := ⟨by kernel_rfl⟩
instance : TZ Try.prog 268 [.int .u32 0, .slice none 0 0] := ⟨by kernel_rfl⟩
instance : TAgg Try.prog 269 2 := ⟨by kernel_rfl⟩
instance : TSt Try.prog 269 := ⟨by kernel_rfl⟩
instance : FS Try.prog 269 0 0 1 := ⟨by kernel_rfl⟩
instance : FS Try.prog 269 1 1 1 := ⟨by kernel_rfl⟩
instance : TZ Try.prog 269 [.int .u32 0, .slice none 0 0] := ⟨by kernel_rfl⟩
instance : TAgg Try.prog 272 3 := ⟨by kernel_rfl⟩
instance : TSt Try.prog 272 := ⟨by kernel_rfl⟩
instance : FS Try.prog 272 0 0 1 := ⟨by kernel_rfl⟩
instance : FS Try.prog 272 1 1 1 := ⟨by kernel_rfl⟩
instance : FS Try.prog 272 2 2 1 := ⟨by kernel_rfl⟩
instance : TZ Try.prog 272 [.int .u8 0, .int .u8 0, .string ByteArray.empty] := ⟨by kernel_rfl⟩
instance : TAgg Try.prog 273 3 := ⟨by kernel_rfl⟩
instance : TSt Try.prog 273 := ⟨by kernel_rfl⟩
instance : FS Try.prog 273 0 0 1 := ⟨by kernel_rfl⟩
instance : FS Try.prog 273 1 1 1 := ⟨by kernel_rfl⟩
instance : FS Try.prog 273 2 2 1 := ⟨by kernel_rfl⟩
instance : TZ Try.prog 273 [.int .u8 0, .int .u8 0, .string ByteArray.empty] := ⟨by kernel_rfl⟩
instance : TOne Try.prog 274 := ⟨by kernel_rfl⟩
instance : TZ Try.prog 274 [.nilIface] := ⟨by kernel_rfl⟩
instance : TOne Try.prog 278 := ⟨by kernel_rfl⟩
instance : TPtr Try.prog 278 80 := ⟨by kernel_rfl⟩
instance : TZ Try.prog 278 [.pointer none] := ⟨by kernel_rfl⟩
instance : TOne Try.prog 279 := ⟨by kernel_rfl⟩
instance : TMap Try.prog 279 2 218 := ⟨by kernel_rfl⟩
instance : TZ Try.prog 279 [.map none] := ⟨by kernel_rfl⟩
instance : TAgg Try.prog 280 6 := ⟨by kernel_rfl⟩
instance : TSt Try.prog 280 := ⟨by kernel_rfl⟩
instance : FS Try.prog 280 0 0 2 := ⟨by kernel_rfl⟩
instance : FS Try.prog 280 1 2 1 := ⟨by kernel_rfl⟩
instance : FS Try.prog 280 2 3 1 := ⟨by kernel_rfl⟩
instance : FS Try.prog 280 3 4 1 := ⟨by kernel_rfl⟩
instance : FS Try.prog 280 4 5 1 := ⟨by kernel_rfl⟩
instance : TZ Try.prog 280 [.int .i64 0, .int .i64 0, .bool false, .int .i64 0, .map none, .int .i64 0] := ⟨by kernel_rfl⟩
instance : TAgg Try.prog 281 6 := ⟨by kernel_rfl⟩
instance : TSt Try.prog 281 := ⟨by kernel_rfl⟩
instance : FS Try.prog 281 0 0 2 := ⟨by kernel_rfl⟩
instance : FS Try.prog 281 1 2 1 := ⟨by kernel_rfl⟩
instance : FS Try.prog 281 2 3 1 := ⟨by kernel_rfl⟩
instance : FS Try.prog 281 3 4 1 := ⟨by kernel_rfl⟩
instance : FS Try.prog 281 4 5 1 := ⟨by kernel_rfl⟩
instance : TZ Try.prog 281 [.int .i64 0, .int .i64 0, .bool false, .int .i64 0, .map none, .int .i64 0] := ⟨by kernel_rfl⟩
instance : TAgg Try.prog 282 7 := ⟨by kernel_rfl⟩
instance : TSt Try.prog 282 := ⟨by kernel_rfl⟩
instance : FS Try.prog 282 0 0 4 := ⟨by kernel_rfl⟩
instance : FS Try.prog 282 1 4 1 := ⟨by kernel_rfl⟩
instance : FS Try.prog 282 2 5 1 := ⟨by kernel_rfl⟩
instance : FS Try.prog 282 3 6 1 := ⟨by kernel_rfl⟩
instance : TZ Try.prog 282 [.bool false, .int .i64 0, .int .i64 0, .int .i64 0, .slice none 0 0, .int .i64 0, .int .i64 0] := ⟨by kernel_rfl⟩
instance : TAgg Try.prog 283 7 := ⟨by kernel_rfl⟩
instance : TSt Try.prog 283 := ⟨by kernel_rfl⟩
instance : FS Try.prog 283 0 0 4 := ⟨by kernel_rfl⟩
instance : FS Try.prog 283 1 4 1 := ⟨by kernel_rfl⟩
instance : FS Try.prog 283 2 5 1 := ⟨by kernel_rfl⟩
instance : FS Try.prog 283 3 6 1 := ⟨by kernel_rfl⟩
instance : TZ Try.prog 283 [.bool false, .int .i64 0, .int .i64 0, .int .i64 0, .slice none 0 0, .int .i64 0, .int .i64 0] := ⟨by kernel_rfl⟩
instance : TOne Try.prog 284 := ⟨by kernel_rfl⟩
instance : TPtr Try.prog 284 206 := ⟨by kernel_rfl⟩
instance : TZ Try.prog 284 [.pointer none] := ⟨by kernel_rfl⟩
instance : TOne Try.prog 292 := ⟨by kernel_rfl⟩
instance : TPtr Try.prog 292 231 := ⟨by kernel_rfl⟩
instance : TZ Try.prog 292 [.pointer none] := ⟨by kernel_rfl⟩
instance : TAgg Try.prog 294 5 := ⟨by kernel_rfl⟩
instance : TSt Try.prog 294 := ⟨by kernel_rfl⟩
instance : FS Try.prog 294 0 0 1 := ⟨by kernel_rfl⟩
instance : FS Try.prog 294 1 1 1 := ⟨by kernel_rfl⟩
instance : FS Try.prog 294 2 2 1 := ⟨by kernel_rfl⟩
instance : FS Try.prog 294 3 3 1 := ⟨by kernel_rfl⟩
instance : FS Try.prog 294 4 4 1 := ⟨by kernel_rfl⟩
instance : TZ Try.prog 294 [.int .i64 0, .map none, .map none, .int .i64 0, .bool false] := ⟨by kernel_rfl⟩
instance : TAgg Try.prog 295 5 := ⟨by kernel_rfl⟩
instance : TSt Try.prog 295 := ⟨by kernel_rfl⟩
instance : FS Try.prog 295 0 0 1 := ⟨by kernel_rfl⟩
instance : FS Try.prog 295 1 1 1 := ⟨by kernel_rfl⟩
instance : FS Try.prog 295 2 2 1 := ⟨by kernel_rfl⟩
instance : FS Try.prog 295 3 3 1 := ⟨by kernel_rfl⟩
instance : FS Try.prog 295 4 4 1 := ⟨by kernel_rfl⟩
instance : TZ Try.prog 295 [.int .i64 0, .map none, .map none, .int .i64 0, .bool false] := ⟨by kernel_rfl⟩
instance : TAgg Try.prog 296 5 := ⟨by kernel_rfl⟩
instance : TSt Try.prog 296 := ⟨by kernel_rfl⟩
instance : FS Try.prog 296 0 0 1 := ⟨by kernel_rfl⟩
instance : FS Try.prog 296 1 1 1 := ⟨by kernel_rfl⟩
instance : FS Try.prog 296 2 2 1 := ⟨by kernel_rfl⟩
instance : FS Try.prog 296 3 3 1 := ⟨by kernel_rfl⟩
instance : FS Try.prog 296 4 4 1 := ⟨by kernel_rfl⟩
instance : TZ Try.prog 296 [.int .i64 0, .int .i64 0, .slice none 0 0, .int .i64 0, .bool false] := ⟨by kernel_rfl⟩
instance : TAgg Try.prog 297 5 := ⟨by kernel_rfl⟩
instance : TSt Try.prog 297 := ⟨by kernel_rfl⟩
instance : FS Try.prog 297 0 0 1 := ⟨by kernel_rfl⟩
instance : FS Try.prog 297 1 1 1 := ⟨by kernel_rfl⟩
instance : FS Try.prog 297 2 2 1 := ⟨by kernel_rfl⟩
instance : FS Try.prog 297 3 3 1 := ⟨by kernel_rfl⟩
instance : FS Try.prog 297 4 4 1 := ⟨by kernel_rfl⟩
instance : TZ Try.prog 297 [.int .i64 0, .int .i64 0, .slice none 0 0, .int .i64 0, .bool false] := ⟨by kernel_rfl⟩
instance : TOne Try.prog 301 := ⟨by kernel_rfl⟩
instance : TSl Try.prog 301 303 2 16 := ⟨by kernel_rfl⟩
instance : TZ Try.prog 301 [.slice none 0 0] := ⟨by kernel_rfl⟩
instance : TAgg Try.prog 302 2 := ⟨by kernel_rfl⟩
instance : TSt Try.prog 302 := ⟨by kernel_rfl⟩
instance : FS Try.prog 302 0 0 1 := ⟨by kernel_rfl⟩
instance : FS Try.prog 302 1 1 1 := ⟨by kernel_rfl⟩
instance : TZ Try.prog 302 [.int .i64 0, .int .i64 0] := ⟨by kernel_rfl⟩
instance : TAgg Try.prog 303 2 := ⟨by kernel_rfl⟩
instance : TSt Try.prog 303 := ⟨by kernel_rfl⟩
instance : FS Try.prog 303 0 0 1 := ⟨by kernel_rfl⟩
instance : FS Try.prog 303 1 1 1 := ⟨by kernel_rfl⟩
instance : TZ Try.prog 303 [.int .i64 0, .int .i64 0] := ⟨by kernel_rfl⟩
instance : TOne Try.prog 306 := ⟨by kernel_rfl⟩
instance : TPtr Try.prog 306 5 := ⟨by kernel_rfl⟩
instance : TZ Try.prog 306 [.pointer none] := ⟨by kernel_rfl⟩
instance : TOne Try.prog 307 := ⟨by kernel_rfl⟩
instance : TSl Try.prog 307 78 1 8 := ⟨by kernel_rfl⟩
instance : TZ Try.prog 307 [.slice none 0 0] := ⟨by kernel_rfl⟩
instance : TAgg Try.prog 308 7 := ⟨by kernel_rfl⟩
instance : TSt Try.prog 308 := ⟨by kernel_rfl⟩
instance : FS Try.prog 308 0 0 1 := ⟨by kernel_rfl⟩
instance : FS Try.prog 308 1 1 1 := ⟨by kernel_rfl⟩
instance : FS Try.prog 308 2 2 1 := ⟨by kernel_rfl⟩
instance : FS Try.prog 308 3 3 1 := ⟨by kernel_rfl⟩
instance : FS Try.prog 308 4 4 1 := ⟨by kernel_rfl⟩
instance : FS Try.prog 308 5 5 1 := ⟨by kernel_rfl⟩
instance : FS Try.prog 308 6 6 1 := ⟨by kernel_rfl⟩
instance : TZ Try.prog 308 [.int .u32 0, .int .u8 0, .int .u32 0, .int .u32 0, .int .u32 0, .int .u32 0, .int .u32 0] := ⟨by kernel_rfl⟩
instance : TAgg Try.prog 309 7 := ⟨by kernel_rfl⟩
instance : TSt Try.prog 309 := ⟨by kernel_rfl⟩
instance : FS Try.prog 309 0 0 1 := ⟨by kernel_rfl⟩
instance : FS Try.prog 309 1 1 1 := ⟨by kernel_rfl⟩
instance : FS Try.prog 309 2 2 1 := ⟨by kernel_rfl⟩
instance : FS Try.prog 309 3 3 1 := ⟨by kernel_rfl⟩
instance : FS Try.prog 309 4 4 1 := ⟨by kernel_rfl⟩
instance : FS Try.prog 309 5 5 1 := ⟨by kernel_rfl⟩
instance : FS Try.prog 309 6 6 1 := ⟨by kernel_rfl⟩
instance : TZ Try.prog 309 [.int .u32 0, .int .u8 0, .int .u32 0, .int .u32 0, .int .u32 0, .int .u32 0, .int .u32 0] := ⟨by kernel_rfl⟩
instance : TOne Try.prog 310 := ⟨by kernel_rfl⟩
instance : TSl Try.prog 310 315 2 32 := ⟨by kernel_rfl⟩
instance : TZ Try.prog 310 [.slice none 0 0] := ⟨by kernel_rfl⟩
instance : TAgg Try.prog 311 1 := ⟨by kernel_rfl⟩
instance : TSt Try.prog 311 := ⟨by kernel_rfl⟩
instance : FS Try.prog 311 0 0 1 := ⟨by kernel_rfl⟩
instance : TZ Try.prog 311 [.slice none 0 0] := ⟨by kernel_rfl⟩
instance : TAgg Try.prog 312 1 := ⟨by kernel_rfl⟩
instance : TSt Try.prog 312 := ⟨by kernel_rfl⟩
instance : FS Try.prog 312 0 0 1 := ⟨by kernel_rfl⟩
instance : TZ Try.prog 312 [.slice none 0 0] := ⟨by kernel_rfl⟩
instance : TOne Try.prog 313 := ⟨by kernel_rfl⟩
instance : TSl Try.prog 313 341 2 24 := ⟨by kernel_rfl⟩
instance : TZ Try.prog 313 [.slice none 0 0] := ⟨by kernel_rfl⟩
instance : TAgg Try.prog 314 2 := ⟨by kernel_rfl⟩
instance : TSt Try.prog 314 := ⟨by kernel_rfl⟩
instance : FS Try.prog 314 0 0 1 := ⟨by kernel_rfl⟩
instance : FS Try.prog 314 1 1 1 := ⟨by kernel_rfl⟩
instance : TZ Try.prog 314 [.int .u32 0, .slice none 0 0] := ⟨by kernel_rfl⟩
instance : TAgg Try.prog 315 2 := ⟨by kernel_rfl⟩
instance : TSt Try.prog 315 := ⟨by kernel_rfl⟩
instance : FS Try.prog 315 0 0 1 := ⟨by kernel_rfl⟩
instance : FS Try.prog 315 1 1 1 := ⟨by kernel_rfl⟩
instance : TZ Try.prog 315 [.int .u32 0, .slice none 0 0] := ⟨by kernel_rfl⟩
instance : TOne Try.prog 324 := ⟨by kernel_rfl⟩
instance : TSl Try.prog 324 2 1 8 := ⟨by kernel_rfl⟩
instance : TZ Try.prog 324 [.slice none 0 0] := ⟨by kernel_rfl⟩
instance : TAgg Try.prog 340 2 := ⟨by kernel_rfl⟩
instance : TSt Try.prog 340 := ⟨by kernel_rfl⟩
instance : FS Try.prog 340 0 0 1 := ⟨by kernel_rfl⟩
instance : FS Try.prog 340 1 1 1 := ⟨by kernel_rfl⟩
instance : TZ Try.prog 340 [.int .u8 0, .string ByteArray.empty] := ⟨by kernel_rfl⟩
instance : TAgg Try.prog 341 2 := ⟨by kernel_rfl⟩
instance : TSt Try.prog 341 := ⟨by kernel_rfl⟩
instance : FS Try.prog 341 0 0 1 := ⟨by kernel_rfl⟩
instance : FS Try.prog 341 1 1 1 := ⟨by kernel_rfl⟩
instance : TZ Try.prog 341 [.int .u8 0, .string ByteArray.empty] := ⟨by kernel_rfl⟩
instance : TOne Try.prog 342 := ⟨by kernel_rfl⟩
instance : TPtr Try.prog 342 208 := ⟨by kernel_rfl⟩
instance : TZ Try.prog 342 [.pointer none] := ⟨by kernel_rfl⟩
instance : TOne Try.prog 353 := ⟨by kernel_rfl⟩
instance : TInt Try.prog 353 .i64 := ⟨by kernel_rfl⟩
instance : TZV Try.prog 353 (.int .i64 0) := ⟨by kernel_rfl⟩
instance : TZ Try.prog 353 [.int .i64 0] := ⟨by kernel_rfl⟩
instance : TOne Try.prog 361 := ⟨by kernel_rfl⟩
instance : TInt Try.prog 361 .u64 := ⟨by kernel_rfl⟩
instance : TZV Try.prog 361 (.int .u64 0) := ⟨by kernel_rfl⟩
instance : TZ Try.prog 361 [.int .u64 0] := ⟨by kernel_rfl⟩
instance : TOne Try.prog 365 := ⟨by kernel_rfl⟩
instance : TPtr Try.prog 365 3 := ⟨by kernel_rfl⟩
instance : TZ Try.prog 365 [.pointer none] := ⟨by kernel_rfl⟩
instance : TOne Try.prog 367 := ⟨by kernel_rfl⟩
instance : TPtr Try.prog 367 361 := ⟨by kernel_rfl⟩
instance : TZ Try.prog 367 [.pointer none] := ⟨by kernel_rfl⟩
instance : HasBody Try.prog 3 := ⟨by kernel_rfl⟩
instance : HasBody Try.prog 4 := ⟨by kernel_rfl⟩
instance : HasBody Try.prog 5 := ⟨by kernel_rfl⟩
instance : HasBody Try.prog 6 := ⟨by kernel_rfl⟩
instance : HasBody Try.prog 7 := ⟨by kernel_rfl⟩
instance : HasBody Try.prog 8 := ⟨by kernel_rfl⟩
instance : HasBody Try.prog 9 := ⟨by kernel_rfl⟩
instance : HasBody Try.prog 10 := ⟨by kernel_rfl⟩
instance : HasBody Try.prog 11 := ⟨by kernel_rfl⟩
instance : HasBody Try.prog 12 := ⟨by kernel_rfl⟩
instance : HasBody Try.prog 13 := ⟨by kernel_rfl⟩
instance : HasBody Try.prog 14 := ⟨by kernel_rfl⟩
instance : HasBody Try.prog 15 := ⟨by kernel_rfl⟩
instance : HasBody Try.prog 16 := ⟨by kernel_rfl⟩
instance : HasBody Try.prog 17 := ⟨by kernel_rfl⟩
instance : HasBody Try.prog 18 := ⟨by kernel_rfl⟩
instance : HasBody Try.prog 19 := ⟨by kernel_rfl⟩
instance : HasBody Try.prog 20 := ⟨by kernel_rfl⟩
instance : HasBody Try.prog 21 := ⟨by kernel_rfl⟩
instance : HasBody Try.prog 22 := ⟨by kernel_rfl⟩
instance : HasBody Try.prog 23 := ⟨by kernel_rfl⟩
instance : HasBody Try.prog 24 := ⟨by kernel_rfl⟩
instance : HasBody Try.prog 25 := ⟨by kernel_rfl⟩
instance : HasBody Try.prog 26 := ⟨by kernel_rfl⟩
instance : HasBody Try.prog 27 := ⟨by kernel_rfl⟩
instance : HasBody Try.prog 28 := ⟨by kernel_rfl⟩
instance : HasBody Try.prog 29 := ⟨by kernel_rfl⟩
instance : HasBody Try.prog 30 := ⟨by kernel_rfl⟩
instance : HasBody Try.prog 31 := ⟨by kernel_rfl⟩
instance : HasBody Try.prog 32 := ⟨by kernel_rfl⟩
instance : HasBody Try.prog 33 := ⟨by kernel_rfl⟩
instance : HasBody Try.prog 34 := ⟨by kernel_rfl⟩
instance : HasBody Try.prog 35 := ⟨by kernel_rfl⟩
instance : HasBody Try.prog 36 := ⟨by kernel_rfl⟩
instance : HasBody Try.prog 37 := ⟨by kernel_rfl⟩
instance : HasBody Try.prog 38 := ⟨by kernel_rfl⟩
instance : HasBody Try.prog 39 := ⟨by kernel_rfl⟩
instance : HasBody Try.prog 40 := ⟨by kernel_rfl⟩
instance : HasBody Try.prog 41 := ⟨by kernel_rfl⟩
instance : HasBody Try.prog 42 := ⟨by kernel_rfl⟩
instance : HasBody Try.prog 43 := ⟨by kernel_rfl⟩
instance : HasBody Try.prog 44 := ⟨by kernel_rfl⟩
instance : HasBody Try.prog 45 := ⟨by kernel_rfl⟩
instance : HasBody Try.prog 46 := ⟨by kernel_rfl⟩
instance : HasBody Try.prog 47 := ⟨by kernel_rfl⟩
instance : HasBody Try.prog 48 := ⟨by kernel_rfl⟩
instance : HasBody Try.prog 49 := ⟨by kernel_rfl⟩
instance : HasBody Try.prog 50 := ⟨by kernel_rfl⟩
instance : HasBody Try.prog 51 := ⟨by kernel_rfl⟩
instance : HasBody Try.prog 52 := ⟨by kernel_rfl⟩
instance : HasBody Try.prog 53 := ⟨by kernel_rfl⟩
instance : HasBody Try.prog 54 := ⟨by kernel_rfl⟩
instance : HasBody Try.prog 55 := ⟨by kernel_rfl⟩
instance : HasBody Try.prog 56 := ⟨by kernel_rfl⟩
instance : HasBody Try.prog 57 := ⟨by kernel_rfl⟩
instance : HasBody Try.prog 58 := ⟨by kernel_rfl⟩
instance : HasBody Try.prog 59 := ⟨by kernel_rfl⟩
instance : HasBody Try.prog 60 := ⟨by kernel_rfl⟩
instance : HasBody Try.prog 61 := ⟨by kernel_rfl⟩
instance : HasBody Try.prog 62 := ⟨by kernel_rfl⟩
instance : HasBody Try.prog 63 := ⟨by kernel_rfl⟩
instance : HasBody Try.prog 64 := ⟨by kernel_rfl⟩
instance : HasBody Try.prog 65 := ⟨by kernel_rfl⟩
instance : HasBody Try.prog 66 := ⟨by kernel_rfl⟩
instance : HasBody Try.prog 67 := ⟨by kernel_rfl⟩
instance : HasBody Try.prog 68 := ⟨by kernel_rfl⟩
instance : HasBody Try.prog 69 := ⟨by kernel_rfl⟩
instance : HasBody Try.prog 70 := ⟨by kernel_rfl⟩
instance : HasBody Try.prog 71 := ⟨by kernel_rfl⟩
instance : HasBody Try.prog 72 := ⟨by kernel_rfl⟩
instance : HasBody Try.prog 73 := ⟨by kernel_rfl⟩
instance : HasBody Try.prog 74 := ⟨by kernel_rfl⟩
instance : HasBody Try.prog 75 := ⟨by kernel_rfl⟩
instance : HasBody Try.prog 76 := ⟨by kernel_rfl⟩
instance : HasBody Try.prog 77 := ⟨by kernel_rfl⟩
instance : HasBody Try.prog 80 := ⟨by kernel_rfl⟩
instance : HasBody Try.prog 81 := ⟨by kernel_rfl⟩
instance : HasBody Try.prog 82 := ⟨by kernel_rfl⟩
instance : HasBody Try.prog 83 := ⟨by kernel_rfl⟩
instance : HasBody Try.prog 84 := ⟨by kernel_rfl⟩
instance : HasBody Try.prog 85 := ⟨by kernel_rfl⟩
instance : HasBody Try.prog 86 := ⟨by kernel_rfl⟩
instance : HasBody Try.prog 87 := ⟨by kernel_rfl⟩
instance : HasBody Try.prog 88 := ⟨by kernel_rfl⟩
instance : HasBody Try.prog 89 := ⟨by kernel_rfl⟩
instance : HasBody Try.prog 90 := ⟨by kernel_rfl⟩
instance : HasBody Try.prog 91 := ⟨by kernel_rfl⟩
instance : HasBody Try.prog 92 := ⟨by kernel_rfl⟩
instance : HasBody Try.prog 93 := ⟨by kernel_rfl⟩
instance : HasBody Try.prog 94 := ⟨by kernel_rfl⟩
instance : HasBody Try.prog 95 := ⟨by kernel_rfl⟩
instance : HasBody Try.prog 96 := ⟨by kernel_rfl⟩
instance : HasBody Try.prog 97 := ⟨by kernel_rfl⟩
instance : HasBody Try.prog 98 := ⟨by kernel_rfl⟩
instance : HasBody Try.prog 99 := ⟨by kernel_rfl⟩
instance : HasBody Try.prog 100 := ⟨by kernel_rfl⟩
instance : HasBody Try.prog 101 := ⟨by kernel_rfl⟩
instance : HasBody Try.prog 102 := ⟨by kernel_rfl⟩
instance : HasBody Try.prog 103 := ⟨by kernel_rfl⟩
instance : HasBody Try.prog 104 := ⟨by kernel_rfl⟩
instance : HasBody Try.prog 105 := ⟨by kernel_rfl⟩
instance : HasBody Try.prog 106 := ⟨by kernel_rfl⟩
instance : HasBody Try.prog 107 := ⟨by kernel_rfl⟩
instance : HasBody Try.prog 108 := ⟨by kernel_rfl⟩
instance : HasBody Try.prog 109 := ⟨by kernel_rfl⟩
instance : HasBody Try.prog 110 := ⟨by kernel_rfl⟩
instance : HasBody Try.prog 111 := ⟨by kernel_rfl⟩
instance : HasBody Try.prog 112 := ⟨by kernel_rfl⟩
instance : HasBody Try.prog 113 := ⟨by kernel_rfl⟩
instance : HasBody Try.prog 114 := ⟨by kernel_rfl⟩
instance : HasBody Try.prog 115 := ⟨by kernel_rfl⟩
instance : HasBody Try.prog 116 := ⟨by kernel_rfl⟩
instance : HasBody Try.prog 117 := ⟨by kernel_rfl⟩
instance : HasBody Try.prog 118 := ⟨by kernel_rfl⟩
instance : HasBody Try.prog 119 := ⟨by kernel_rfl⟩
instance : HasBody Try.prog 120 := ⟨by kernel_rfl⟩
instance : HasBody Try.prog 121 := ⟨by kernel_rfl⟩
instance : HasBody Try.prog 122 := ⟨by kernel_rfl⟩
instance : HasBody Try.prog 124 := ⟨by kernel_rfl⟩
instance : HasBody Try.prog 125 := ⟨by kernel_rfl⟩
instance : HasBody Try.prog 126 := ⟨by kernel_rfl⟩
instance : HasBody Try.prog 127 := ⟨by kernel_rfl⟩
instance : HasBody Try.prog 128 := ⟨by kernel_rfl⟩
instance : HasBody Try.prog 129 := ⟨by kernel_rfl⟩
instance : HasBody Try.prog 130 := ⟨by kernel_rfl⟩
instance : HasBody Try.prog 131 := ⟨by kernel_rfl⟩
instance : HasBody Try.prog 132 := ⟨by kernel_rfl⟩
instance : HasBody Try.prog 133 := ⟨by kernel_rfl⟩
instance : HasBody Try.prog 134 := ⟨by kernel_rfl⟩
instance : HasBody Try.prog 135 := ⟨by kernel_rfl⟩
instance : HasBody Try.prog 136 := ⟨by kernel_rfl⟩
instance : HasBody Try.prog 137 := ⟨by kernel_rfl⟩
instance : HasBody Try.prog 138 := ⟨by kernel_rfl⟩
instance : HasBody Try.prog 139 := ⟨by kernel_rfl⟩
instance : HasBody Try.prog 140 := ⟨by kernel_rfl⟩
instance : HasBody Try.prog 141 := ⟨by kernel_rfl⟩
instance : HasBody Try.prog 142 := ⟨by kernel_rfl⟩
instance : HasBody Try.prog 143 := ⟨by kernel_rfl⟩
instance : HasBody Try.prog 144 := ⟨by kernel_rfl⟩
instance : HasBody Try.prog 145 := ⟨by kernel_rfl⟩
instance : HasBody Try.prog 146 := ⟨by kernel_rfl⟩
instance : HasBody Try.prog 147 := ⟨by kernel_rfl⟩
instance : HasBody Try.prog 148 := ⟨by kernel_rfl⟩
instance : HasBody Try.prog 149 := ⟨by kernel_rfl⟩
instance : HasBody Try.prog 151 := ⟨by kernel_rfl⟩
instance : HasBody Try.prog 152 := ⟨by kernel_rfl⟩
instance : HasBody Try.prog 153 := ⟨by kernel_rfl⟩
instance : HasBody Try.prog 154 := ⟨by kernel_rfl⟩
instance : HasBody Try.prog 155 := ⟨by kernel_rfl⟩
instance : HasBody Try.prog 156 := ⟨by kernel_rfl⟩
instance : HasBody Try.prog 157 := ⟨by kernel_rfl⟩
instance : HasBody Try.prog 158 := ⟨by kernel_rfl⟩
instance : HasBody Try.prog 161 := ⟨by kernel_rfl⟩
instance : HasBody Try.prog 162 := ⟨by kernel_rfl⟩
instance : HasBody Try.prog 164 := ⟨by kernel_rfl⟩
instance : HasBody Try.prog 166 := ⟨by kernel_rfl⟩
instance : HasBody Try.prog 167 := ⟨by kernel_rfl⟩
instance : HasBody Try.prog 169 := ⟨by kernel_rfl⟩
instance : HasBody Try.prog 171 := ⟨by kernel_rfl⟩
instance : HasBody Try.prog 172 := ⟨by kernel_rfl⟩
instance : HasBody Try.prog 174 := ⟨by kernel_rfl⟩
instance : HasBody Try.prog 177 := ⟨by kernel_rfl⟩
instance : HasBody Try.prog 180 := ⟨by kernel_rfl⟩
instance : HasBody Try.prog 185 := ⟨by kernel_rfl⟩
instance : HasBody Try.prog 219 := ⟨by kernel_rfl⟩
instance : HasBody Try.prog 220 := ⟨by kernel_rfl⟩
instance : HasBody Try.prog 221 := ⟨by kernel_rfl⟩
instance : HasBody Try.prog 222 := ⟨by kernel_rfl⟩
instance : HasBody Try.prog 228 := ⟨by kernel_rfl⟩
instance : HasBody Try.prog 229 := ⟨by kernel_rfl⟩
instance : HasBody Try.prog 230 := ⟨by kernel_rfl⟩
instance : HasBody Try.prog 231 := ⟨by kernel_rfl⟩
instance : HasBody Try.prog 232 := ⟨by kernel_rfl⟩
instance : HasBody Try.prog 233 := ⟨by kernel_rfl⟩
instance : HasBody Try.prog 234 := ⟨by kernel_rfl⟩
instance : HasBody Try.prog 237 := ⟨by kernel_rfl⟩
instance : HasBody Try.prog 238 := ⟨by kernel_rfl⟩
instance : HasBody Try.prog 239 := ⟨by kernel_rfl⟩
instance : HasBody Try.prog 240 := ⟨by kernel_rfl⟩
instance : HasBody Try.prog 241 := ⟨by kernel_rfl⟩
instance : HasBody Try.prog 242 := ⟨by kernel_rfl⟩
instance : HasBody Try.prog 243 := ⟨by kernel_rfl⟩
instance : HasBody Try.prog 246 := ⟨by kernel_rfl⟩
instance : HasBody Try.prog 247 := ⟨by kernel_rfl⟩
theorem mixed : Try.prog.follows .mixedOrders = true := by kernel_rfl
end Go.Proofs.Ytlhlidmhlhodiaa

/-
  Sparse frames: slices that are only read, whatever they are where they are empty.
-/
namespace Go.Proofs.Ytlhlidmhlhodiaa
set_option linter.unusedSimpArgs false
set_option linter.unusedVariables false
open Go.RowKit

/-- a slice that is only read, of which nothing is known where it is empty -/
structure SQ (R : List Ro) (sz : Nat) (ao : Option Addr) (n c : Nat) (xs : List (List Value)) : Prop where
  len : xs.length = n
  pos : 0 < n → ∃ b o, ao = some ⟨b, o, none⟩ ∧ ⟨b, o, sz, xs⟩ ∈ R
theorem SR.sq {R : List Ro} {sz : Nat} {ao : Option Addr} {n c : Nat} {xs : List (List Value)} (h : SR R sz ao n c xs) : SQ R sz ao n c xs := ⟨h.len, h.pos⟩
theorem SQ.mono {R R' : List Ro} {sz : Nat} {ao : Option Addr} {n c : Nat} {xs : List (List Value)} (h : SQ R sz ao n c xs) (hR : ∀ r ∈ R, r ∈ R') : SQ R' sz ao n c xs :=
  ⟨h.len, fun h0 => by obtain ⟨b, o, e, m⟩ := h.pos h0; exact ⟨b, o, e, hR _ m⟩⟩
theorem SQ.nil (R : List Ro) (sz : Nat) (ao : Option Addr) (c : Nat) : SQ R sz ao 0 c [] := ⟨rfl, fun h => absurd h (by omega)⟩
/-- a callee that only reads a slice, handed an owned one -/
theorem Fn.own {P : Program} {f : FuncId} {args : Array Value} {T sz n c : Nat} {ao : Option Addr} {xs : List (List Value)} {Q : Value → List It → Prop}
    (h : ∀ R, SQ R sz ao n c xs → Fn P f args [] R (fun v L' R' => Q v L' ∧ R' = [])) : Fn P f args [.own T sz ao n c xs] [] (fun v L' R' => ∃ L0, Q v L0 ∧ L' = L0 ++ [.own T sz ao n c xs] ∧ R' = []) := by
  intro w hw
  have hO : OwnSat w T sz ao n c xs := hw.sat _ (.head _)
  have key : ∀ R : List Ro, (∀ r ∈ R, r.sat w) → SQ R sz ao n c xs → Calls P f args w fun e w' => ∃ v L' R', e = .returned v ∧ (∃ L0, Q v L0 ∧ L' = L0 ++ [.own T sz ao n c xs] ∧ R' = []) ∧ Sat w (feet [It.own T sz ao n c xs]) (blks []) L' R' w' := fun R hR hS => by
    have h0 : Sat w (feet []) (blks R) [] R w := ⟨Frm.refl _ _, (fun x hx => by cases hx), (fun x hx => by cases hx), .nil, hR, (fun r hr x hx => by cases hx), fun r hr => .inr (.inl (mem_blks.2 ⟨r, hr, rfl⟩))⟩
    refine (h R hS w h0).mono fun e w' ⟨v, L', R', he, ⟨hq, hR'⟩, hs⟩ => ?_
    subst hR'
    have hs2 : Sat w (feet []) [] L' [] w' := ⟨hs.frm, hs.sat, hs.own, hs.dis, (fun r hr => by cases hr), (fun r hr => by cases hr), (fun r hr => by cases hr)⟩
    have := hw.step (F := [.own T sz ao n c xs]) (.refl _) (fun b hb => by cases hb) hs2
    exact ⟨v, _, _, he, ⟨L', hq, rfl, rfl⟩, by simpa using this⟩
  cases ao with
  | none =>
    have := hO.nil rfl
    have h1 := hO.le
    have h2 := hO.len
    obtain rfl : n = 0 := by omega
    obtain rfl : xs = [] := List.eq_nil_of_length_eq_zero h2
    exact key [] (fun r hr => by cases hr) (SQ.nil _ _ _ _)
  | some a =>
    obtain ⟨hsp, cur, hcur, hfit, hseg⟩ := hO.at_ a rfl
    obtain ⟨b, o, s⟩ := a
    simp only at hsp hcur hseg
    subst hsp
    exact key [⟨b, o, sz, xs⟩] (fun r hr => by rcases List.mem_singleton.1 hr with rfl; exact ⟨hO.rows, cur, T, (0, 0), hcur, hseg⟩) ⟨hO.len, fun _ => ⟨b, o, rfl, .head _⟩⟩
end Go.Proofs.Ytlhlidmhlhodiaa

/-
  Package octet, the reader, and its reference.
-/
namespace Go.Proofs.Ytlhlidmhlhodiaa
set_option linter.unusedSimpArgs false
set_option linter.unusedVariables false
set_option linter.unusedSimpArgs false
set_option linter.unusedVariables false
open Go.RowKit
set_option maxRecDepth 100000
attribute [local irreducible] Pv WO WC Fn
attribute [local irreducible] ByteArray.extract

abbrev E0 : ByteArray := ⟨#[]⟩
abbrev rdO (g : Nat) (s : ByteArray) (e : Int) : It := .ob g (.cells #[.string s, .int .i64 e] 260 (0, 0))
abbrev rrL (s : ByteArray) (e : Int) : List Value := [.string s, .int .i64 e]
def rdB (s : ByteArray) (e n : Int) : ByteArray × ByteArray × Int :=
  if e ≠ 0 then (E0, s, e) else if n < 0 then (E0, E0, 5) else if (s.size : Int) < n then (E0, E0, 1) else (s.extract 0 n.toNat, s.extract n.toNat s.size, 0)
def rdF (s : ByteArray) (e x : Int) : ByteArray × Int := if e = 0 ∧ x ≠ 0 then (E0, x) else (s, e)
theorem octRead (s : ByteArray) : Fn Try.prog 62 #[.string s] [] [] (fun v L' R' => ∃ g, v = .pointer (some ⟨g, 0, none⟩) ∧ L' = [rdO g s 0] ∧ R' = []) := by
  refine fn_intro Try.func62 rfl Try.ntmps62 rfl (fun E => ?_)
  (repeat (first | ((first | (apply wo_v; rfl) ); (· first | (apply pv_ev; rfl) | (apply g_build; apply pv_build; (· (repeat (first | apply Bld.nil | (apply Bld.one; rfl; rfl; (· (repeat (first | apply SetAt.here )))) )))) )) | apply wo_nil | apply wc_seq | apply wc_region | apply wc_ret | (apply wo_box1; rfl; rfl; rfl; intro bx) | (apply wo_boxa; rfl; rfl; intro bx) ))
  exact retv rfl (by (repeat (first | apply RV.nil | (apply RV.tmp; rfl) )); done) ⟨_, rfl, rfl, rfl⟩ (by (repeat (first | apply sub_nil )); done) (by first | exact fun _ h => h | (intro r hr; cases hr; done) | (simp; done) | exact fun _ h => List.mem_append_left _ h | (intro r hr; simp [hr]; done))
theorem octLen (g : Nat) (s : ByteArray) (e : Int) : Fn Try.prog 84 #[.pointer (some ⟨g, 0, none⟩)] [rdO g s e] [] (fun v L' R' => v = .int .i64 s.size ∧ L' = [rdO g s e] ∧ R' = []) := by
  refine fn_intro Try.func84 rfl Try.ntmps84 rfl (fun E => ?_)
  (repeat (first | ((first | (apply wo_v; rfl) ); (· first | (apply pv_ev; rfl) | (apply pv_fld; rfl) | (apply g_load; first | (apply pv_ld; rfl; (· (repeat (first | apply sel_here ))); rfl) ) | (apply g_bi; first | (apply pv_len_str; rfl) ) )) | apply wo_nil | apply wc_seq | apply wc_region | apply wc_ret ))
  exact retv rfl (by (repeat (first | apply RV.nil | (apply RV.tmp; rfl) )); done) (⟨rfl, rfl, rfl⟩) (by (repeat (first | apply sub_nil )); done) (by first | exact fun _ h => h | (intro r hr; cases hr; done) | (simp; done) | exact fun _ h => List.mem_append_left _ h | (intro r hr; simp [hr]; done))
theorem octErr (g : Nat) (s : ByteArray) (e : Int) : Fn Try.prog 64 #[.pointer (some ⟨g, 0, none⟩)] [rdO g s e] [] (fun v L' R' => v = .int .i64 e ∧ L' = [rdO g s e] ∧ R' = []) := by
  refine fn_intro Try.func64 rfl Try.ntmps64 rfl (fun E => ?_)
  (repeat (first | ((first | (apply wo_v; rfl) ); (· first | (apply pv_ev; rfl) | (apply pv_fld; rfl) | (apply g_load; first | (apply pv_ld; rfl; (· (repeat (first | apply sel_here ))); rfl) ) )) | apply wo_nil | apply wc_seq | apply wc_region | apply wc_ret ))
  exact retv rfl (by (repeat (first | apply RV.nil | (apply RV.tmp; rfl) )); done) (⟨rfl, rfl, rfl⟩) (by (repeat (first | apply sub_nil )); done) (by first | exact fun _ h => h | (intro r hr; cases hr; done) | (simp; done) | exact fun _ h => List.mem_append_left _ h | (intro r hr; simp [hr]; done))
theorem octFail (g : Nat) (s : ByteArray) (e x : Int) : Fn Try.prog 70 #[.pointer (some ⟨g, 0, none⟩), .int .i64 x] [rdO g s e] [] (fun v L' R' => v = .tuple #[] ∧ L' = [rdO g (rdF s e x).1 (rdF s e x).2] ∧ R' = []) := by
  have h : (e = 0 ∧ x ≠ 0) ∨ (e = 0 ∧ ¬ x ≠ 0) ∨ ¬ e = 0 := by omega
  rcases h with ⟨h1, h2⟩ | ⟨h1, h2⟩ | h1
  · have hf : rdF s e x = (E0, x) := if_pos ⟨h1, h2⟩
    rw [hf]
    refine fn_intro Try.func70 rfl Try.ntmps70 rfl (fun E => ?_)
    (repeat (first | ((first | (apply wo_v; rfl) ); (· first | (apply pv_ev; rfl) | (apply pv_fld; rfl) | (apply g_load; first | (apply pv_ld; rfl; (· (repeat (first | apply sel_here ))); rfl) ) | (apply g_pick; first | (apply pv_pick_t; rfl; rfl) ) )) | apply wo_nil | apply wc_seq | apply wc_region | (apply wc_true; rfl) | (apply wc_false; rfl) | (apply a_dec_t; rfl; (· first | assumption | omega)) | (apply wo_run; rfl; rfl) | (apply wo_skip; rfl; rfl; rfl; rfl) | (apply wo_skip_u; rfl; rfl; rfl) | (apply a_gt; rfl; rfl; (· first | assumption | omega)) | (apply wo_st; rfl; rfl; rfl; (· (repeat (first | apply sel_here ))); (· (repeat (first | apply SetAt.here | apply SetAt.there))); rfl) ))
    exact ret0 rfl ⟨rfl, rfl, rfl⟩ (by (repeat (first | apply sub_nil )); done) (by first | exact fun _ h => h | (intro r hr; cases hr; done) | (simp; done) | exact fun _ h => List.mem_append_left _ h | (intro r hr; simp [hr]; done))
  · have hf : rdF s e x = (s, e) := if_neg (fun h => h2 h.2)
    rw [hf]
    refine fn_intro Try.func70 rfl Try.ntmps70 rfl (fun E => ?_)
    (repeat (first | ((first | (apply wo_v; rfl) ); (· first | (apply pv_ev; rfl) | (apply pv_fld; rfl) | (apply g_load; first | (apply pv_ld; rfl; (· (repeat (first | apply sel_here ))); rfl) ) | (apply g_pick; first | (apply pv_pick_t; rfl; rfl) ) )) | apply wo_nil | apply wc_seq | apply wc_region | apply wc_skip | (apply wc_true; rfl) | (apply wc_false; rfl) | (apply a_dec_t; rfl; (· first | assumption | omega)) | (apply a_dec_f; rfl; (· first | assumption | omega)) | (apply wo_run; rfl; rfl) | (apply wo_skip; rfl; rfl; rfl; rfl) | (apply wo_skip_u; rfl; rfl; rfl) | (apply a_gt; rfl; rfl; (· first | assumption | omega)) ))
    exact ret0 rfl ⟨rfl, rfl, rfl⟩ (by (repeat (first | apply sub_nil )); done) (by first | exact fun _ h => h | (intro r hr; cases hr; done) | (simp; done) | exact fun _ h => List.mem_append_left _ h | (intro r hr; simp [hr]; done))
  · have hf : rdF s e x = (s, e) := if_neg (fun h => h1 h.1)
    rw [hf]
    refine fn_intro Try.func70 rfl Try.ntmps70 rfl (fun E => ?_)
    (repeat (first | ((first | (apply wo_v; rfl) ); (· first | (apply pv_ev; rfl) | (apply pv_fld; rfl) | (apply g_load; first | (apply pv_ld; rfl; (· (repeat (first | apply sel_here ))); rfl) ) | (apply g_pick; first | (apply pv_pick_t; rfl; rfl) | (apply pv_pick_f; rfl; rfl)) )) | apply wo_nil | apply wc_seq | apply wc_region | apply wc_skip | (apply wc_true; rfl) | (apply wc_false; rfl) | (apply wo_run; rfl; rfl) | (apply wo_skip; rfl; rfl; rfl; rfl) | (apply wo_skip_u; rfl; rfl; rfl) | (apply a_gt; rfl; rfl; (· first | assumption | omega)) | (apply a_gf; rfl; rfl; (· first | assumption | omega)) ))
    exact ret0 rfl ⟨rfl, rfl, rfl⟩ (by (repeat (first | apply sub_nil )); done) (by first | exact fun _ h => h | (intro r hr; cases hr; done) | (simp; done) | exact fun _ h => List.mem_append_left _ h | (intro r hr; simp [hr]; done))
set_option maxHeartbeats 2000000 in
theorem octBytes (g : Nat) (s : ByteArray) (e n : Int) (hs : s.size ≤ 1099511627776) : Fn Try.prog 67 #[.pointer (some ⟨g, 0, none⟩), .int .i64 n] [rdO g s e] []
    (fun v L' R' => v = .string (rdB s e n).1 ∧ L' = [rdO g (rdB s e n).2.1 (rdB s e n).2.2] ∧ R' = []) := by
  have h : ¬ e = 0 ∨ (e = 0 ∧ n < 0) ∨ (e = 0 ∧ ¬ n < 0 ∧ (s.size : Int) < n) ∨ (e = 0 ∧ ¬ n < 0 ∧ ¬ (s.size : Int) < n) := by omega
  rcases h with h1 | ⟨rfl, h2⟩ | ⟨rfl, h2, h3⟩ | ⟨rfl, h2, h3⟩
  · have hf : rdB s e n = (E0, s, e) := if_pos h1
    rw [hf]
    refine fn_intro Try.func67 rfl Try.ntmps67 rfl (fun E => ?_)
    (repeat (first | ((first | (apply wo_v; rfl) ); (· first | (apply pv_ev; rfl) | (apply pv_fld; rfl) | (apply g_load; first | (apply pv_ld; rfl; (· (repeat (first | apply sel_here ))); rfl) ) )) | apply wo_nil | apply wc_seq | apply wc_region | apply wc_block | apply wc_ret | (apply wc_true; rfl) | (apply wc_false; rfl) | (apply a_dec_t; rfl; (· first | assumption | omega)) ))
    exact retv rfl (by (repeat (first | apply RV.nil | (apply RV.tmp; rfl) )); done) (⟨rfl, rfl, rfl⟩) (by (repeat (first | apply sub_nil )); done) (by first | exact fun _ h => h | (intro r hr; cases hr; done) | (simp; done) | exact fun _ h => List.mem_append_left _ h | (intro r hr; simp [hr]; done))
  · have hf : rdB s 0 n = (E0, E0, 5) := by unfold rdB; rw [if_neg (by omega), if_pos h2]
    rw [hf]
    refine fn_intro Try.func67 rfl Try.ntmps67 rfl (fun E => ?_)
    (repeat (first | ((first | (apply wo_v; rfl) ); (· first | (apply pv_ev; rfl) | (apply pv_fld; rfl) | (apply g_load; first | (apply pv_ld; rfl; (· (repeat (first | apply sel_here ))); rfl) ) )) | apply wo_nil | apply wc_seq | apply wc_region | apply wc_block | (apply wc_true; rfl) | (apply wc_false; rfl) | (apply a_dec_t; rfl; (· first | assumption | omega)) ))
    (refine wo_call (octFail g s 0 5) rfl (by (repeat (first | apply sub_nil )); done) (by first | exact fun _ h => h | (intro r hr; cases hr; done) | (simp; done) | exact fun _ h => List.mem_append_left _ h | (intro r hr; simp [hr]; done)) rfl ?_; rintro v L' R' ⟨rfl, rfl, rfl⟩ H' hH RR hR; simp only [List.cons_append, List.nil_append] at hH hR; subst hH; have hR := hR.symm; subst hR)
    (repeat (first | ((first | (apply wo_v; rfl) ); (· first | (apply pv_ev; rfl) )) | apply wo_nil | apply wc_seq | apply wc_region | apply wc_ret ))
    exact retv rfl (by (repeat (first | apply RV.nil | (apply RV.tmp; rfl) )); done) (⟨rfl, rfl, rfl⟩) (by (repeat (first | apply sub_nil )); done) (by first | exact fun _ h => h | (intro r hr; cases hr; done) | (simp; done) | exact fun _ h => List.mem_append_left _ h | (intro r hr; simp [hr]; done))
  · have hf : rdB s 0 n = (E0, E0, 1) := by unfold rdB; rw [if_neg (by omega), if_neg h2, if_pos h3]
    rw [hf]
    refine fn_intro Try.func67 rfl Try.ntmps67 rfl (fun E => ?_)
    (repeat (first | ((first | (apply wo_v; rfl) ); (· first | (apply pv_ev; rfl) | (apply pv_fld; rfl) | (apply g_load; first | (apply pv_ld; rfl; (· (repeat (first | apply sel_here ))); rfl) ) | (apply g_bi; first | (apply pv_len_str; rfl) ) )) | apply wo_nil | apply wc_seq | apply wc_region | apply wc_block | (apply wc_true; rfl) | (apply wc_false; rfl) | (apply a_dec_t; rfl; (· first | assumption | omega)) | (apply a_dec_f; rfl; (· first | assumption | omega)) ))
    (refine wo_call (octFail g s 0 1) rfl (by (repeat (first | apply sub_nil )); done) (by first | exact fun _ h => h | (intro r hr; cases hr; done) | (simp; done) | exact fun _ h => List.mem_append_left _ h | (intro r hr; simp [hr]; done)) rfl ?_; rintro v L' R' ⟨rfl, rfl, rfl⟩ H' hH RR hR; simp only [List.cons_append, List.nil_append] at hH hR; subst hH; have hR := hR.symm; subst hR)
    (repeat (first | ((first | (apply wo_v; rfl) ); (· first | (apply pv_ev; rfl) )) | apply wo_nil | apply wc_seq | apply wc_region | apply wc_ret ))
    exact retv rfl (by (repeat (first | apply RV.nil | (apply RV.tmp; rfl) )); done) (⟨rfl, rfl, rfl⟩) (by (repeat (first | apply sub_nil )); done) (by first | exact fun _ h => h | (intro r hr; cases hr; done) | (simp; done) | exact fun _ h => List.mem_append_left _ h | (intro r hr; simp [hr]; done))
  · have hf : rdB s 0 n = (s.extract 0 n.toNat, s.extract n.toNat s.size, 0) := by unfold rdB; rw [if_neg (by omega), if_neg h2, if_neg h3]
    rw [hf]
    refine fn_intro Try.func67 rfl Try.ntmps67 rfl (fun E => ?_)
    (repeat (first | ((first | (apply wo_v; rfl) ); (· first | (apply pv_ev; rfl) | (apply pv_fld; rfl) | (apply g_load; first | (apply pv_ld; rfl; (· (repeat (first | apply sel_here ))); rfl) ) | (apply g_bi; first | (apply pv_len_str; rfl) ) | (apply pv_cs_lo; rfl; rfl; omega) | (apply pv_cs_hi; rfl; rfl; omega) )) | apply wo_nil | apply wc_seq | apply wc_region | apply wc_block | apply wc_skip | apply wc_ret | (apply wc_true; rfl) | (apply wc_false; rfl) | (apply a_dec_t; rfl; (· first | assumption | omega)) | (apply a_dec_f; rfl; (· first | assumption | omega)) | (apply wo_st; rfl; rfl; rfl; (· (repeat (first | apply sel_here ))); (· (repeat (first | apply SetAt.here ))); rfl) ))
    exact retv rfl (by (repeat (first | apply RV.nil | (apply RV.tmp; rfl) )); done) (⟨rfl, rfl, rfl⟩) (by (repeat (first | apply sub_nil )); done) (by first | exact fun _ h => h | (intro r hr; cases hr; done) | (simp; done) | exact fun _ h => List.mem_append_left _ h | (intro r hr; simp [hr]; done))
/-! the reference -/
end Go.Proofs.Ytlhlidmhlhodiaa

/-
  Package octet: the reader's numbers, and the reference's.
-/
namespace Go.Proofs.Ytlhlidmhlhodiaa
set_option linter.unusedSimpArgs false
set_option linter.unusedVariables false
set_option linter.unusedSimpArgs false
set_option linter.unusedVariables false
open Go.RowKit
set_option maxRecDepth 100000
attribute [local irreducible] Pv WO WC Fn
attribute [local irreducible] ByteArray.extract

def valK (s : ByteArray) : Nat → Int
  | 0 => 0
  | k + 1 => valK s k * 256 + sb s k
theorem valK_b (s : ByteArray) : (∀ k, 0 ≤ valK s k) ∧ valK s 1 ≤ 255 ∧ valK s 2 ≤ 65535 ∧ valK s 3 ≤ 16777215 ∧ valK s 4 ≤ 4294967295 ∧ valK s 5 ≤ 1099511627775 ∧ valK s 6 ≤ 281474976710655 ∧ valK s 7 ≤ 72057594037927935 ∧ valK s 8 ≤ 18446744073709551615 := by
  have h := sb_b s
  refine ⟨fun k => ?_, ?_⟩
  · induction k with
    | zero => exact Int.le_refl _
    | succ k ih => have := h k; simp only [valK]; omega
  · have h0 := h 0; have h1 := h 1; have h2 := h 2; have h3 := h 3; have h4 := h 4; have h5 := h 5; have h6 := h 6; have h7 := h 7
    simp only [valK]
    omega
theorem valK_le7 (s : ByteArray) {k : Nat} (hk : k ≤ 7) : 0 ≤ valK s k ∧ valK s k ≤ 72057594037927935 := by
  obtain ⟨h0, h1, h2, h3, h4, h5, h6, h7, h8⟩ := valK_b s
  have := h0 k
  obtain rfl | rfl | rfl | rfl | rfl | rfl | rfl | rfl : k = 0 ∨ k = 1 ∨ k = 2 ∨ k = 3 ∨ k = 4 ∨ k = 5 ∨ k = 6 ∨ k = 7 := by omega
  · simp [valK]
  all_goals omega
theorem valK_le8 (s : ByteArray) {k : Nat} (hk : k ≤ 8) : 0 ≤ valK s k ∧ valK s k ≤ 18446744073709551615 := by
  by_cases h : k ≤ 7
  · have := valK_le7 s h; omega
  · obtain rfl : k = 8 := by omega
    have := valK_b s; exact ⟨this.1 8, this.2.2.2.2.2.2.2.2⟩
theorem rdB_size (s : ByteArray) (e n : Int) (hn : 0 ≤ n) : (((rdB s e n).1).size : Int) ≤ n := by
  have hE : E0.size = 0 := rfl
  unfold rdB
  split
  · simpa [hE] using hn
  · split
    · simpa [hE] using hn
    · split
      · simpa [hE] using hn
      · simp only [ByteArray.size_extract]; omega
theorem rdB_size2 (s : ByteArray) (e n : Int) : ((rdB s e n).2.1).size ≤ s.size := by
  have hE : E0.size = 0 := rfl
  unfold rdB
  split
  · exact Nat.le_refl _
  · split
    · simp [hE]
    · split
      · simp [hE]
      · simp only [ByteArray.size_extract]; omega
set_option maxHeartbeats 1000000 in
theorem octNum (g : Nat) (s b s2 : ByteArray) (e n e2 : Int) (hs : s.size ≤ 1099511627776) (hq : rdB s e (min (max n 1) 8) = (b, s2, e2)) : Fn Try.prog 121 #[.pointer (some ⟨g, 0, none⟩), .int .i64 n] [rdO g s e] []
    (fun v L' R' => v = .int .u64 (valK b b.size) ∧ L' = [rdO g s2 e2] ∧ R' = []) := by
  have hB := octBytes g s e (min (max n 1) 8) hs
  have hz := rdB_size s e (min (max n 1) 8) (by omega)
  rw [hq] at hB hz
  simp only at hB hz
  have hz8 : b.size ≤ 8 := by omega
  clear hz hq
  refine fn_intro Try.func121 rfl Try.ntmps121 rfl (fun E => ?_)
  (repeat (first | ((first | (apply wo_v; rfl) ); (· first | (apply pv_ev; rfl) | (apply g_bi; first | (apply pv_min; rfl; rfl) | (apply pv_max; rfl; rfl)) )) | apply wo_nil | apply wc_seq | apply wc_region ))
  (refine wo_call (hB) rfl (by (repeat (first | apply sub_nil )); done) (by first | exact fun _ h => h | (intro r hr; cases hr; done) | (simp; done) | exact fun _ h => List.mem_append_left _ h | (intro r hr; simp [hr]; done)) rfl ?_; rintro v L' R' ⟨rfl, rfl, rfl⟩ H' hH RR hR; simp only [List.cons_append, List.nil_append] at hH hR; subst hH; have hR := hR.symm; subst hR)
  (repeat (first | ((first | (apply wo_v; rfl) ); (· first | (apply pv_ev; rfl) | (apply g_bi; first | (apply pv_len_sl; rfl) ) | (apply g_conv; first | (apply a_conv; rfl; infer_instance; infer_instance; infer_instance; omega) | (apply a_conv_u; rfl; infer_instance; infer_instance; infer_instance) | (apply a_conv_w; rfl; infer_instance; infer_instance) ) )) | apply wo_nil | apply wc_block | (apply wo_conv_sb; rfl; rfl; intro bc cc hcc) ))
  refine wc_loop' (fun m st => ∃ (k : Nat), m = b.size - k ∧ st = ⟨[(5, .int .u64 (valK b k)), (13, .slice (some ⟨bc, 0, none⟩) b.size cc), (14, .int .i64 b.size), (15, .int .i64 k)], [rdO g s2 e2], [⟨bc, 0, 1, brows b⟩]⟩ ∧ k ≤ b.size)
    ⟨0, rfl, rfl, Nat.zero_le _⟩ (wk_mk (by (repeat (first | apply wkf_nil | (apply wkf_cons; rfl))); done) (by (repeat (first | apply sub_nil )); done) (by first | exact fun _ h => h | (intro r hr; cases hr; done) | (simp; done) | exact fun _ h => List.mem_append_left _ h | (intro r hr; simp [hr]; done))) ?_
  rintro m st ⟨k, rfl, rfl, hk⟩
  by_cases hlt : k < b.size
  · have hr := brows_at hlt
    have hv := valK_le7 b (show k ≤ 7 by omega)
    have hb := sb_b b k
    (repeat (first | ((first | (apply wo_v; rfl) ); (· first | (apply pv_ev; rfl) | (apply g_load; first | (apply pv_ld; rfl; (· (repeat (first | apply sel_there))); rfl) | (apply pv_ld_ownf; rfl; (· (repeat (first | fail ))); (· assumption); rfl) | (apply pv_ld_own1; rfl; (· (repeat (first | apply sel_there))); (· assumption)) | (apply pv_ld_rof; rfl; (· (first | assumption )); (· assumption); rfl) | (apply pv_ld_ro1; rfl; (· (first | assumption | ((repeat (first | apply List.Mem.head )); done))); (· assumption)) ) | (apply g_bin; first | (apply a_add; rfl; rfl; infer_instance; omega) | (apply (a_or 8); rfl; rfl; infer_instance; rfl; omega) | (apply a_shl; rfl; rfl; rfl; omega; rfl; infer_instance; omega) ) | (apply g_conv; first | (apply a_conv; rfl; infer_instance; infer_instance; infer_instance; omega) ) | (apply g_idx; first | (apply pv_idx; rfl; rfl; omega) ) )) | apply wo_nil | apply wc_seq | apply wc_region | apply wc_block | apply wc_skip | (apply wc_true; rfl) | (apply wc_false; rfl) | (apply a_dec_t; rfl; (· first | assumption | omega)) ))
    exact loop_end ⟨k + 1, rfl, rfl, by omega⟩ (by omega) (wk_mk (by (repeat (first | apply wkf_nil | (apply wkf_cons; rfl))); done) (by (repeat (first | apply sub_nil )); done) (by first | exact fun _ h => h | (intro r hr; cases hr; done) | (simp; done) | exact fun _ h => List.mem_append_left _ h | (intro r hr; simp [hr]; done)))
  · obtain rfl : k = b.size := by omega
    (repeat (first | ((first | (apply wo_v; rfl) ); (· first | (apply pv_ev; rfl) )) | apply wo_nil | apply wc_seq | apply wc_region | (apply wc_exit; rfl) | apply wc_ret | (apply wc_true; rfl) | (apply wc_false; rfl) | (apply a_dec_t; rfl; (· first | assumption | omega)) | (apply a_dec_f; rfl; (· first | assumption | omega)) ))
    exact retv rfl (by (repeat (first | apply RV.nil | (apply RV.tmp; rfl) )); done) (⟨rfl, rfl, rfl⟩) (by (repeat (first | apply sub_nil )); done) (by first | exact fun _ h => h | (intro r hr; cases hr; done) | (simp; done) | exact fun _ h => List.mem_append_left _ h | (intro r hr; simp [hr]; done))
theorem octU8 (g : Nat) (s b s2 : ByteArray) (e e2 : Int) (hs : s.size ≤ 1099511627776) (hq : rdB s e 1 = (b, s2, e2)) : Fn Try.prog 63 #[.pointer (some ⟨g, 0, none⟩)] [rdO g s e] []
    (fun v L' R' => v = .int .u8 (valK b b.size) ∧ L' = [rdO g s2 e2] ∧ R' = []) := by
  have hN := octNum g s b s2 e 1 e2 hs (by rw [show min (max (1 : Int) 1) 8 = 1 from rfl]; exact hq)
  have hz := rdB_size s e 1 (by omega)
  rw [hq] at hz
  have hv : 0 ≤ valK b b.size ∧ valK b b.size ≤ 255 := by
    obtain ⟨h0, h1, _⟩ := valK_b b
    have h2 := h0 b.size
    obtain h | h : b.size = 0 ∨ b.size = 1 := by simp only at hz; omega
    · rw [h]; simp [valK]
    · rw [h] at h2 ⊢; omega
  refine fn_intro Try.func63 rfl Try.ntmps63 rfl (fun E => ?_)
  (repeat (first | ((first | (apply wo_v; rfl) ); (· first | (apply pv_ev; rfl) )) | apply wo_nil | apply wc_seq | apply wc_region ))
  (refine wo_call (hN) rfl (by (repeat (first | apply sub_nil )); done) (by first | exact fun _ h => h | (intro r hr; cases hr; done) | (simp; done) | exact fun _ h => List.mem_append_left _ h | (intro r hr; simp [hr]; done)) rfl ?_; rintro v L' R' ⟨rfl, rfl, rfl⟩ H' hH RR hR; simp only [List.cons_append, List.nil_append] at hH hR; subst hH; have hR := hR.symm; subst hR)
  (repeat (first | ((first | (apply wo_v; rfl) ); (· first | (apply pv_ev; rfl) | (apply g_conv; first | (apply a_conv; rfl; infer_instance; infer_instance; infer_instance; omega) ) )) | apply wo_nil | apply wc_ret ))
  exact retv rfl (by (repeat (first | apply RV.nil | (apply RV.tmp; rfl) )); done) (⟨rfl, rfl, rfl⟩) (by (repeat (first | apply sub_nil )); done) (by first | exact fun _ h => h | (intro r hr; cases hr; done) | (simp; done) | exact fun _ h => List.mem_append_left _ h | (intro r hr; simp [hr]; done))
theorem octU16 (g : Nat) (s b s2 : ByteArray) (e e2 : Int) (hs : s.size ≤ 1099511627776) (hq : rdB s e 2 = (b, s2, e2)) : Fn Try.prog 65 #[.pointer (some ⟨g, 0, none⟩)] [rdO g s e] []
    (fun v L' R' => v = .int .u16 (valK b b.size) ∧ L' = [rdO g s2 e2] ∧ R' = []) := by
  have hN := octNum g s b s2 e 2 e2 hs (by rw [show min (max (2 : Int) 1) 8 = 2 from rfl]; exact hq)
  have hz := rdB_size s e 2 (by omega)
  rw [hq] at hz
  have hv : 0 ≤ valK b b.size ∧ valK b b.size ≤ 65535 := by
    obtain ⟨h0, h1, h1', _⟩ := valK_b b
    have h2 := h0 b.size
    obtain h | h | h : b.size = 0 ∨ b.size = 1 ∨ b.size = 2 := by simp only at hz; omega
    · rw [h]; simp [valK]
    · rw [h] at h2 ⊢; omega
    · rw [h] at h2 ⊢; omega
  refine fn_intro Try.func65 rfl Try.ntmps65 rfl (fun E => ?_)
  (repeat (first | ((first | (apply wo_v; rfl) ); (· first | (apply pv_ev; rfl) )) | apply wo_nil | apply wc_seq | apply wc_region ))
  (refine wo_call (hN) rfl (by (repeat (first | apply sub_nil )); done) (by first | exact fun _ h => h | (intro r hr; cases hr; done) | (simp; done) | exact fun _ h => List.mem_append_left _ h | (intro r hr; simp [hr]; done)) rfl ?_; rintro v L' R' ⟨rfl, rfl, rfl⟩ H' hH RR hR; simp only [List.cons_append, List.nil_append] at hH hR; subst hH; have hR := hR.symm; subst hR)
  (repeat (first | ((first | (apply wo_v; rfl) ); (· first | (apply pv_ev; rfl) | (apply g_conv; first | (apply a_conv; rfl; infer_instance; infer_instance; infer_instance; omega) ) )) | apply wo_nil | apply wc_ret ))
  exact retv rfl (by (repeat (first | apply RV.nil | (apply RV.tmp; rfl) )); done) (⟨rfl, rfl, rfl⟩) (by (repeat (first | apply sub_nil )); done) (by first | exact fun _ h => h | (intro r hr; cases hr; done) | (simp; done) | exact fun _ h => List.mem_append_left _ h | (intro r hr; simp [hr]; done))
theorem octU32 (g : Nat) (s b s2 : ByteArray) (e e2 : Int) (hs : s.size ≤ 1099511627776) (hq : rdB s e 4 = (b, s2, e2)) : Fn Try.prog 66 #[.pointer (some ⟨g, 0, none⟩)] [rdO g s e] []
    (fun v L' R' => v = .int .u32 (valK b b.size) ∧ L' = [rdO g s2 e2] ∧ R' = []) := by
  have hN := octNum g s b s2 e 4 e2 hs (by rw [show min (max (4 : Int) 1) 8 = 4 from rfl]; exact hq)
  have hz := rdB_size s e 4 (by omega)
  rw [hq] at hz
  have hv : 0 ≤ valK b b.size ∧ valK b b.size ≤ 4294967295 := by
    obtain ⟨h0, h1, h1', h1'', h1''', _⟩ := valK_b b
    have h2 := h0 b.size
    obtain h | h | h | h | h : b.size = 0 ∨ b.size = 1 ∨ b.size = 2 ∨ b.size = 3 ∨ b.size = 4 := by simp only at hz; omega
    · rw [h]; simp [valK]
    all_goals (rw [h] at h2 ⊢; omega)
  refine fn_intro Try.func66 rfl Try.ntmps66 rfl (fun E => ?_)
  (repeat (first | ((first | (apply wo_v; rfl) ); (· first | (apply pv_ev; rfl) )) | apply wo_nil | apply wc_seq | apply wc_region ))
  (refine wo_call (hN) rfl (by (repeat (first | apply sub_nil )); done) (by first | exact fun _ h => h | (intro r hr; cases hr; done) | (simp; done) | exact fun _ h => List.mem_append_left _ h | (intro r hr; simp [hr]; done)) rfl ?_; rintro v L' R' ⟨rfl, rfl, rfl⟩ H' hH RR hR; simp only [List.cons_append, List.nil_append] at hH hR; subst hH; have hR := hR.symm; subst hR)
  (repeat (first | ((first | (apply wo_v; rfl) ); (· first | (apply pv_ev; rfl) | (apply g_conv; first | (apply a_conv; rfl; infer_instance; infer_instance; infer_instance; omega) ) )) | apply wo_nil | apply wc_ret ))
  exact retv rfl (by (repeat (first | apply RV.nil | (apply RV.tmp; rfl) )); done) (⟨rfl, rfl, rfl⟩) (by (repeat (first | apply sub_nil )); done) (by first | exact fun _ h => h | (intro r hr; cases hr; done) | (simp; done) | exact fun _ h => List.mem_append_left _ h | (intro r hr; simp [hr]; done))
theorem octRest (g : Nat) (s : ByteArray) (e : Int) (hs : s.size ≤ 1099511627776) : Fn Try.prog 68 #[.pointer (some ⟨g, 0, none⟩)] [rdO g s e] []
    (fun v L' R' => v = .string (rdB s e s.size).1 ∧ L' = [rdO g (rdB s e s.size).2.1 (rdB s e s.size).2.2] ∧ R' = []) := by
  have hB := octBytes g s e s.size hs
  refine fn_intro Try.func68 rfl Try.ntmps68 rfl (fun E => ?_)
  (repeat (first | ((first | (apply wo_v; rfl) ); (· first | (apply pv_ev; rfl) )) | apply wo_nil | apply wc_seq | apply wc_region ))
  (refine wo_call (octLen g s e) rfl (by (repeat (first | apply sub_nil )); done) (by first | exact fun _ h => h | (intro r hr; cases hr; done) | (simp; done) | exact fun _ h => List.mem_append_left _ h | (intro r hr; simp [hr]; done)) rfl ?_; rintro v L' R' ⟨rfl, rfl, rfl⟩ H' hH RR hR; simp only [List.cons_append, List.nil_append] at hH hR; subst hH; have hR := hR.symm; subst hR)
  (repeat (first | ((first | (apply wo_v; rfl) ); (· first | (apply pv_ev; rfl) )) ))
  (refine wo_call (hB) rfl (by (repeat (first | apply sub_nil )); done) (by first | exact fun _ h => h | (intro r hr; cases hr; done) | (simp; done) | exact fun _ h => List.mem_append_left _ h | (intro r hr; simp [hr]; done)) rfl ?_; rintro v L' R' ⟨rfl, rfl, rfl⟩ H' hH RR hR; simp only [List.cons_append, List.nil_append] at hH hR; subst hH; have hR := hR.symm; subst hR)
  (repeat (first | ((first | (apply wo_v; rfl) ); (· first | (apply pv_ev; rfl) )) | apply wo_nil | apply wc_ret ))
  exact retv rfl (by (repeat (first | apply RV.nil | (apply RV.tmp; rfl) )); done) (⟨rfl, rfl, rfl⟩) (by (repeat (first | apply sub_nil )); done) (by first | exact fun _ h => h | (intro r hr; cases hr; done) | (simp; done) | exact fun _ h => List.mem_append_left _ h | (intro r hr; simp [hr]; done))
def rdE (s : ByteArray) (e : Int) : Int := if e = 0 ∧ s ≠ E0 then 2 else e
theorem octEnd (g : Nat) (s : ByteArray) (e : Int) (he : e ≠ 0 → s = E0) : Fn Try.prog 87 #[.pointer (some ⟨g, 0, none⟩)] [rdO g s e] []
    (fun v L' R' => v = .int .i64 (rdE s e) ∧ L' = [rdO g E0 (rdE s e)] ∧ R' = []) := by
  by_cases h1 : s = E0
  · have hf : rdE s e = e := if_neg (fun h => h.2 h1)
    rw [hf]
    subst h1
    refine fn_intro Try.func87 rfl Try.ntmps87 rfl (fun E => ?_)
    (repeat (first | ((first | (apply wo_v; rfl) ); (· first | (apply pv_ev; rfl) | (apply pv_fld; rfl) | (apply g_load; first | (apply pv_ld; rfl; (· (repeat (first | apply sel_here ))); rfl) ) | (apply g_bin; first | (apply pv_neq_s; rfl; rfl) ) )) | apply wo_nil | apply wc_seq | apply wc_region | apply wc_skip | apply wc_ret | (apply wc_true; rfl) | (apply wc_false; rfl) ))
    exact retv rfl (by (repeat (first | apply RV.nil | (apply RV.tmp; rfl) )); done) (⟨rfl, rfl, rfl⟩) (by (repeat (first | apply sub_nil )); done) (by first | exact fun _ h => h | (intro r hr; cases hr; done) | (simp; done) | exact fun _ h => List.mem_append_left _ h | (intro r hr; simp [hr]; done))
  · have h2 : e = 0 := by
      by_cases h2 : e = 0
      · exact h2
      · exact absurd (he h2) h1
    subst h2
    have hf : rdE s 0 = 2 := if_pos ⟨rfl, h1⟩
    rw [hf]
    have hF := octFail g s 0 2
    rw [show rdF s 0 2 = (E0, 2) from if_pos ⟨rfl, by omega⟩] at hF
    refine fn_intro Try.func87 rfl Try.ntmps87 rfl (fun E => ?_)
    (repeat (first | ((first | (apply wo_v; rfl) ); (· first | (apply pv_ev; rfl) | (apply pv_fld; rfl) | (apply g_load; first | (apply pv_ld; rfl; (· (repeat (first | apply sel_here ))); rfl) ) | (apply g_bin; first | (apply pv_neq_s; rfl; rfl) ) )) | apply wo_nil | apply wc_seq | apply wc_region | (apply wc_true; rfl) | (apply wc_false; rfl) | (apply a_dec_t; rfl; (· first | assumption | omega)) ))
    (refine wo_call (hF) rfl (by (repeat (first | apply sub_nil )); done) (by first | exact fun _ h => h | (intro r hr; cases hr; done) | (simp; done) | exact fun _ h => List.mem_append_left _ h | (intro r hr; simp [hr]; done)) rfl ?_; rintro v L' R' ⟨rfl, rfl, rfl⟩ H' hH RR hR; simp only [List.cons_append, List.nil_append] at hH hR; subst hH; have hR := hR.symm; subst hR)
    (repeat (first | ((first | (apply wo_v; rfl) ); (· first | (apply pv_ev; rfl) | (apply pv_fld; rfl) | (apply g_load; first | (apply pv_ld; rfl; (· (repeat (first | apply sel_here ))); rfl) ) )) | apply wo_nil | apply wc_seq | apply wc_region | apply wc_ret ))
    exact retv rfl (by (repeat (first | apply RV.nil | (apply RV.tmp; rfl) )); done) (⟨rfl, rfl, rfl⟩) (by (repeat (first | apply sub_nil )); done) (by first | exact fun _ h => h | (intro r hr; cases hr; done) | (simp; done) | exact fun _ h => List.mem_append_left _ h | (intro r hr; simp [hr]; done))
/-! the reference -/
def cutS (s : ByteArray) (n : Nat) : ByteArray := if n < s.size then s.extract 0 n else s
theorem cutS_size (s : ByteArray) (n : Nat) : (cutS s n).size ≤ n := by
  unfold cutS
  split
  · simp only [ByteArray.size_extract]; omega
  · omega
theorem octCut (s : ByteArray) (n : Nat) : Fn Try.prog 11 #[.string s, .int .i64 n] [] [] (fun v L' R' => v = .string (cutS s n) ∧ L' = [] ∧ R' = []) := by
  by_cases h : n < s.size
  · rw [show cutS s n = s.extract 0 n from if_pos h]
    refine fn_intro Try.func11 rfl Try.ntmps11 rfl (fun E => ?_)
    (repeat (first | ((first | (apply wo_v; rfl) ); (· first | (apply pv_ev; rfl) | (apply g_bi; first | (apply pv_len_str; rfl) ) | (apply pv_cs_hi; rfl; rfl; omega) )) | apply wo_nil | apply wc_seq | apply wc_region | apply wc_ret | (apply wc_true; rfl) | (apply wc_false; rfl) | (apply a_dec_t; rfl; (· first | assumption | omega)) ))
    exact retv rfl (by (repeat (first | apply RV.nil | (apply RV.tmp; rfl) )); done) (⟨by simp [outV], rfl, rfl⟩) (by (repeat (first | apply sub_nil )); done) (by first | exact fun _ h => h | (intro r hr; cases hr; done) | (simp; done) | exact fun _ h => List.mem_append_left _ h | (intro r hr; simp [hr]; done))
  · rw [show cutS s n = s from if_neg h]
    refine fn_intro Try.func11 rfl Try.ntmps11 rfl (fun E => ?_)
    (repeat (first | ((first | (apply wo_v; rfl) ); (· first | (apply pv_ev; rfl) | (apply g_bi; first | (apply pv_len_str; rfl) ) )) | apply wo_nil | apply wc_seq | apply wc_region | apply wc_skip | apply wc_ret | (apply wc_true; rfl) | (apply wc_false; rfl) | (apply a_dec_t; rfl; (· first | assumption | omega)) | (apply a_dec_f; rfl; (· first | assumption | omega)) ))
    exact retv rfl (by (repeat (first | apply RV.nil | (apply RV.tmp; rfl) )); done) (⟨rfl, rfl, rfl⟩) (by (repeat (first | apply sub_nil )); done) (by first | exact fun _ h => h | (intro r hr; cases hr; done) | (simp; done) | exact fun _ h => List.mem_append_left _ h | (intro r hr; simp [hr]; done))
end Go.Proofs.Ytlhlidmhlhodiaa

/-
  Package octet, the writer (over strings.Builder).
-/
namespace Go.Proofs.Ytlhlidmhlhodiaa
set_option linter.unusedSimpArgs false
set_option linter.unusedVariables false
set_option linter.unusedSimpArgs false
set_option linter.unusedVariables false
open Go.RowKit
attribute [local irreducible] Pv WO WC Fn
attribute [local irreducible] ByteArray.extract

instance : TUns Try.prog 338 := ⟨by kernel_rfl⟩
abbrev wrT : TypeId := 145
abbrev wrO (g : Nat) (p ao : Option Addr) (n c : Nat) : It := .ob g (.cells #[.pointer p, .slice ao n c] wrT (0, 0))
abbrev wrH (g : Nat) (p ao : Option Addr) (c : Nat) (s : ByteArray) : List It := [wrO g p ao s.size c, .own 5 1 ao s.size c (brows s)]
structure WOk (g : Nat) (p ao : Option Addr) (c : Nat) (s : ByteArray) : Prop where
  p : p = none ∨ p = some ⟨g, 0, none⟩
  b : (ao = none ∧ c = 0 ∧ s = E0) ∨ (∃ b, ao = some ⟨b, 0, none⟩ ∧ 0 < s.size)
theorem WOk.h0 {g : Nat} {p ao : Option Addr} {c : Nat} {s : ByteArray} (h : WOk g p ao c s) : ao = none ∨ ∃ b, ao = some ⟨b, 0, none⟩ := by
  rcases h.b with ⟨h, _⟩ | ⟨b, h, _⟩
  · exact .inl h
  · exact .inr ⟨b, h⟩
theorem E0_append (s : ByteArray) : E0 ++ s = s := by
  apply ByteArray.ext; simp
theorem append_E0 (s : ByteArray) : s ++ E0 = s := by
  apply ByteArray.ext; simp
theorem size_zero {s : ByteArray} (h : s.size = 0) : s = E0 := by
  apply ByteArray.ext
  exact Array.eq_empty_of_size_eq_zero h
set_option maxRecDepth 100000 in
theorem noEsc {fr : List (Nat × Value)} {hp : List It} {ro : List Ro} {x : Operand} {v : Value} {ats : Array TypeId} (hx : opd fr x = some v) : Pv Try.prog ⟨fr, hp, ro⟩ (.call ⟨.value (.func 170), #[x], ats⟩) v :=
  pv_ext Try.func170 (by kernel_rfl) (by kernel_rfl) (by kernel_rfl) (e := Extern.AbiNoEscape.same) (by kernel_rfl) hx (fun w => rfl)
theorem wrLies : liesAt Try.prog Try.prog.depth wrT (2 / Try.prog.cellsOf wrT) 0 143 1 = true := by kernel_rfl
set_option maxRecDepth 100000 in
theorem bCheck (g n c : Nat) (p ao : Option Addr) (hp : p = none ∨ p = some ⟨g, 0, none⟩) : Fn Try.prog 149 #[.pointer (some ⟨g, 0, none⟩)] [wrO g p ao n c] [] (fun v L' R' => v = .tuple #[] ∧ L' = [wrO g (some ⟨g, 0, none⟩) ao n c] ∧ R' = []) := by
  rcases hp with rfl | rfl
  · refine fn_intro Try.func149 rfl Try.ntmps149 rfl (fun E => ?_)
    (repeat (first | ((first | (apply wo_v; rfl) ); (· first | (apply pv_ev; rfl) | (apply pv_fld; rfl) | (apply g_load; first | (apply pv_ld; rfl; (· (repeat (first | apply sel_here ))); rfl) ) | (apply g_bin; first | (apply pv_eql_p; rfl; rfl) ) | (apply g_conv; first | (apply a_conv; rfl; infer_instance; infer_instance; infer_instance; omega) | (apply a_conv_u; rfl; infer_instance; infer_instance; infer_instance) | (apply a_conv_w; rfl; infer_instance; infer_instance) ) )) | apply wo_nil | apply wc_seq | apply wc_region | (apply wc_true; rfl) ))
    refine wo_v rfl (pv_tou rfl (by (repeat (first | apply sel_here )); done) rfl) ?_
    refine wo_v rfl (noEsc rfl) ?_
    refine wo_v rfl (pv_fromu rfl (by (repeat (first | apply sel_here )); done) wrLies) ?_
    (repeat (first | ((first | (apply wo_v; rfl) ); (· first | (apply pv_ev; rfl) | (apply pv_fld; rfl) )) | apply wo_nil | (apply wo_st; rfl; rfl; rfl; (· (repeat (first | apply sel_here ))); (· (repeat (first | apply SetAt.here ))); rfl) ))
    exact ret0 rfl ⟨rfl, rfl, rfl⟩ (by (repeat (first | apply sub_nil )); done) (by first | exact fun _ h => h | (intro r hr; cases hr; done) | (simp; done) | exact fun _ h => List.mem_append_left _ h | (intro r hr; simp [hr]; done))
  · refine fn_intro Try.func149 rfl Try.ntmps149 rfl (fun E => ?_)
    (repeat (first | ((first | (apply wo_v; rfl) ); (· first | (apply pv_ev; rfl) | (apply pv_fld; rfl) | (apply g_load; first | (apply pv_ld; rfl; (· (repeat (first | apply sel_here ))); rfl) ) | (apply g_bin; first | (apply pv_eql_p; rfl; rfl) | (apply pv_neq_p; rfl; rfl) | (apply pv_neq_pp; rfl; rfl) ) )) | apply wo_nil | apply wc_seq | apply wc_region | apply wc_skip | (apply wc_true; rfl) | (apply wc_false; rfl) ))
    exact ret0 rfl ⟨rfl, rfl, rfl⟩ (by (repeat (first | apply sub_nil )); done) (by first | exact fun _ h => h | (intro r hr; cases hr; done) | (simp; done) | exact fun _ h => List.mem_append_left _ h | (intro r hr; simp [hr]; done))
theorem bWriteString (g c : Nat) (p ao : Option Addr) (s z : ByteArray) (hw : WOk g p ao c s) (hz : s.size + z.size ≤ 1099511627776) : Fn Try.prog 122 #[.pointer (some ⟨g, 0, none⟩), .string z] (wrH g p ao c s) []
    (fun v L' R' => ∃ p' ao' c', v = .tuple #[.int .i64 z.size, .nilIface] ∧ L' = wrH g p' ao' c' (s ++ z) ∧ R' = [] ∧ WOk g p' ao' c' (s ++ z)) := by
  have e1 : brows s ++ brows z = brows (s ++ z) := (brows_append s z).symm
  have e2 : s.size + z.size = (s ++ z).size := by simp
  refine fn_intro Try.func122 rfl Try.ntmps122 rfl (fun E => ?_)
  (repeat (first | ((first | (apply wo_v; rfl) ); (· first | (apply pv_ev; rfl) )) | apply wo_nil | apply wc_seq | apply wc_region ))
  (refine wo_call (bCheck g s.size c p ao hw.p) rfl (by (repeat (first | apply sub_nil )); done) (by first | exact fun _ h => h | (intro r hr; cases hr; done) | (simp; done) | exact fun _ h => List.mem_append_left _ h | (intro r hr; simp [hr]; done)) rfl ?_; rintro v L' R' ⟨rfl, rfl, rfl⟩ H' hH RR hR; simp only [List.cons_append, List.nil_append] at hH hR; subst hH; have hR := hR.symm; subst hR)
  (repeat (first | ((first | (apply wo_v; rfl) ); (· first | (apply pv_ev; rfl) | (apply pv_fld; rfl) | (apply g_load; first | (apply pv_ld; rfl; (· (repeat (first | apply sel_here ))); rfl) ) | (apply g_bi; first | fail ) )) | apply wo_nil | apply wc_seq | apply wc_region ))
  refine wo_app_str rfl rfl (by (repeat (first | apply sel_here | apply sel_there)); done) hw.h0 hz rfl (fun ao' c' h1 h2 h3 => ?_)
  rw [e1, e2]
  rw [e2] at h1
  (repeat (first | ((first | (apply wo_v; rfl) ); (· first | (apply pv_ev; rfl) | (apply pv_fld; rfl) | (apply g_bi; first | (apply pv_len_str; rfl) ) )) | apply wo_nil | apply wc_seq | apply wc_region | apply wc_ret | (apply wo_st; rfl; rfl; rfl; (· (repeat (first | apply sel_here | apply sel_there))); (· (repeat (first | apply SetAt.here | apply SetAt.there))); rfl) ))
  refine retv rfl (by (repeat (first | apply RV.nil | (apply RV.tmp; rfl) )); done) ⟨some ⟨g, 0, none⟩, ao', c', rfl, rfl, rfl, ⟨.inr rfl, ?_⟩⟩ (by (repeat (first | apply sub_nil )); done) (by first | exact fun _ h => h | (intro r hr; cases hr; done) | (simp; done) | exact fun _ h => List.mem_append_left _ h | (intro r hr; simp [hr]; done))
  rcases h1 with ⟨h1, h4⟩ | ⟨b, h1⟩
  · exact .inl ⟨h1, h3 h1, size_zero h4⟩
  · refine .inr ⟨b, h1, ?_⟩
    rcases hw.b with ⟨h5, _, h6⟩ | ⟨_, _, h6⟩
    · have h7 : z.size ≠ 0 := fun h => by rw [h2 h5 h] at h1; cases h1
      omega
    · omega
theorem bLen (g n c : Nat) (p ao : Option Addr) : Fn Try.prog 131 #[.pointer (some ⟨g, 0, none⟩)] [wrO g p ao n c] [] (fun v L' R' => v = .int .i64 n ∧ L' = [wrO g p ao n c] ∧ R' = []) := by
  refine fn_intro Try.func131 rfl Try.ntmps131 rfl (fun E => ?_)
  (repeat (first | ((first | (apply wo_v; rfl) ); (· first | (apply pv_ev; rfl) | (apply pv_fld; rfl) | (apply g_load; first | (apply pv_ld; rfl; (· (repeat (first | apply sel_here ))); rfl) ) | (apply g_bi; first | (apply pv_len_sl; rfl) ) )) | apply wo_nil | apply wc_seq | apply wc_region | apply wc_ret ))
  exact retv rfl (by (repeat (first | apply RV.nil | (apply RV.tmp; rfl) )); done) (⟨rfl, rfl, rfl⟩) (by (repeat (first | apply sub_nil )); done) (by first | exact fun _ h => h | (intro r hr; cases hr; done) | (simp; done) | exact fun _ h => List.mem_append_left _ h | (intro r hr; simp [hr]; done))
theorem bString (g c : Nat) (p ao : Option Addr) (s : ByteArray) (hw : WOk g p ao c s) : Fn Try.prog 119 #[.pointer (some ⟨g, 0, none⟩)] (wrH g p ao c s) []
    (fun v L' R' => v = .string s ∧ L' = [wrO g p ao s.size c] ∧ R' = []) := by
  rcases hw.b with ⟨rfl, rfl, rfl⟩ | ⟨b, rfl, h0⟩
  · refine fn_intro Try.func119 rfl Try.ntmps119 rfl (fun E => ?_)
    (repeat (first | ((first | (apply wo_v; rfl) ); (· first | (apply pv_ev; rfl) )) | apply wo_nil | apply wc_seq | apply wc_region ))
    (refine wc_quiet mixed (by kernel_rfl) ?_; (repeat (first | ((first | (apply hd_v; rfl) ); (· first | (apply pv_ev; rfl) | (apply pv_fld; rfl) | (apply g_load; first | (apply pv_ld; rfl; (· (repeat (first | apply sel_here ))); rfl) ) | (apply g_bi; first | (apply pv_sld; rfl; omega) | (apply pv_sld0; rfl) | (apply pv_ustr0; rfl; rfl) | (apply pv_len_sl; rfl) ) )) | apply Hd.nil | apply wc_ret )))
    exact retv rfl (by (repeat (first | apply RV.nil | (apply RV.tmp; rfl) )); done) (⟨rfl, rfl, rfl⟩) (by (repeat (first | apply sub_nil )); done) (by first | exact fun _ h => h | (intro r hr; cases hr; done) | (simp; done) | exact fun _ h => List.mem_append_left _ h | (intro r hr; simp [hr]; done))
  · refine fn_intro Try.func119 rfl Try.ntmps119 rfl (fun E => ?_)
    (repeat (first | ((first | (apply wo_v; rfl) ); (· first | (apply pv_ev; rfl) )) | apply wo_nil | apply wc_seq | apply wc_region ))
    refine wc_own (t := 5) (sz := 1) (ao := some ⟨b, 0, none⟩) (n := s.size) (k := c) (xs := brows s) (by (repeat (first | apply sel_here | apply sel_there)); done) (fun hl1 hl2 hl3 => ?_)
    (refine wc_tail 10 mixed (by kernel_rfl) ?_; (repeat (first | ((first | (apply wo_v; rfl) | (apply hd_v; rfl) ); (· first | (apply pv_ev; rfl) | (apply pv_fld; rfl) | (apply g_load; first | (apply pv_ld; rfl; (· (repeat (first | apply sel_here ))); rfl) ) | (apply g_bi; first | (apply pv_sld; rfl; omega) | (apply pv_ustr0; rfl; rfl) | (apply pv_len_sl; rfl) ) )) | apply Hd.nil )))
    refine wo_ustr (e := 5) (by kernel_rfl) rfl rfl (by (repeat (first | apply sel_here | apply sel_there)); done) h0 rfl ?_
    (repeat (first | ((first | (apply wo_v; rfl) ); (· first | (apply pv_ev; rfl) )) | apply wo_nil | apply wc_ret ))
    exact retv rfl (by (repeat (first | apply RV.nil | (apply RV.tmp; rfl) )); done) (⟨rfl, rfl, rfl⟩) (by (repeat (first | apply sub_nil )); done) (by first | exact fun _ h => h | (intro r hr; cases hr; done) | (simp; done) | exact fun _ h => List.mem_append_left _ h | (intro r hr; simp [hr]; done))
end Go.Proofs.Ytlhlidmhlhodiaa

/-
  Package octet: the writer's methods.
-/
namespace Go.Proofs.Ytlhlidmhlhodiaa
set_option linter.unusedSimpArgs false
set_option linter.unusedVariables false
set_option linter.unusedSimpArgs false
set_option linter.unusedVariables false
open Go.RowKit
set_option maxRecDepth 100000
attribute [local irreducible] Pv WO WC Fn
attribute [local irreducible] ByteArray.extract

/-- one byte -/
def b1 (x : Int) : ByteArray := ⟨#[UInt8.ofNat x.toNat]⟩
theorem b1_size (x : Int) : (b1 x).size = 1 := rfl
theorem b1_rows {x : Int} (h : 0 ≤ x ∧ x ≤ 255) : brows (b1 x) = [[.int .u8 x]] := by
  have e : (((UInt8.ofNat x.toNat).toNat : Nat) : Int) = x := by
    simp only [UInt8.toNat_ofNat']; omega
  show [[Value.int .u8 (((UInt8.ofNat x.toNat).toNat : Nat) : Int)]] = _
  rw [e]
set_option maxHeartbeats 1000000 in
theorem bWriteByte (g c : Nat) (p ao : Option Addr) (s : ByteArray) (x : Int) (hx : 0 ≤ x ∧ x ≤ 255) (hw : WOk g p ao c s) (hz : s.size + 1 ≤ 1099511627776) : Fn Try.prog 130 #[.pointer (some ⟨g, 0, none⟩), .int .u8 x] (wrH g p ao c s) []
    (fun v L' R' => ∃ p' ao' c', v = .nilIface ∧ L' = wrH g p' ao' c' (s ++ b1 x) ∧ R' = [] ∧ WOk g p' ao' c' (s ++ b1 x)) := by
  have e1 : brows s ++ [[.int .u8 x]] = brows (s ++ b1 x) := by rw [brows_append, b1_rows hx]
  have e2 : s.size + 1 = (s ++ b1 x).size := by simp [b1_size]
  refine fn_intro Try.func130 rfl Try.ntmps130 rfl (fun E => ?_)
  (repeat (first | ((first | (apply wo_v; rfl) ); (· first | (apply pv_ev; rfl) )) | apply wo_nil | apply wc_seq | apply wc_region ))
  (refine wo_call (bCheck g s.size c p ao hw.p) rfl (by (repeat (first | apply sub_nil )); done) (by first | exact fun _ h => h | (intro r hr; cases hr; done) | (simp; done) | exact fun _ h => List.mem_append_left _ h | (intro r hr; simp [hr]; done)) rfl ?_; rintro v L' R' ⟨rfl, rfl, rfl⟩ H' hH RR hR; simp only [List.cons_append, List.nil_append] at hH hR; subst hH; have hR := hR.symm; subst hR)
  (repeat (first | ((first | (apply wo_v; rfl) ); (· first | (apply pv_ev; rfl) | (apply pv_fld; rfl) | (apply g_load; first | (apply pv_ld; rfl; (· (repeat (first | apply sel_here ))); rfl) ) | (apply g_bi; first | fail ) )) | apply wo_nil | apply wc_seq | apply wc_region | (apply wo_bsl; (· (repeat (first | apply Rws'.nil | (apply Rws'.one; rfl; rfl; rfl) ))); rfl; rfl; rfl; rfl; intro bx) ))
  refine wo_app0 rfl rfl (by (repeat (first | apply sel_here | apply sel_there)); done) (by (repeat (first | apply sel_here )); done) (by unfold maxLen; omega) (by omega) rfl (fun ao' c' h1 h2 h3 => ?_)
  rw [e1, e2]
  (repeat (first | ((first | (apply wo_v; rfl) ); (· first | (apply pv_ev; rfl) | (apply pv_fld; rfl) )) | apply wo_nil | apply wc_seq | apply wc_region | apply wc_ret | (apply wo_st; rfl; rfl; rfl; (· (repeat (first | apply sel_here | apply sel_there))); (· (repeat (first | apply SetAt.here | apply SetAt.there))); rfl) ))
  refine retv rfl (by (repeat (first | apply RV.nil | (apply RV.tmp; rfl) )); done) ⟨some ⟨g, 0, none⟩, ao', c', rfl, rfl, rfl, ⟨.inr rfl, .inr ?_⟩⟩ (by (repeat (first | apply sub_nil )); done) (by first | exact fun _ h => h | (intro r hr; cases hr; done) | (simp; done) | exact fun _ h => List.mem_append_left _ h | (intro r hr; simp [hr]; done))
  cases ao' with
  | none => have := h2 rfl; omega
  | some a =>
    rcases h1 a rfl with ⟨b, h⟩ | h
    · exact ⟨b, h, by omega⟩
    · rcases hw.b with ⟨h5, _, _⟩ | ⟨b, h5, _⟩
      · rw [h5] at h; cases h
      · exact ⟨b, h.trans h5, by omega⟩
abbrev byO (bl c : Nat) (z : ByteArray) : It := .own 5 1 (some ⟨bl, 0, none⟩) z.size c (brows z)
set_option maxHeartbeats 1000000 in
theorem bWrite (g c bl c2 : Nat) (p ao : Option Addr) (s z : ByteArray) (hw : WOk g p ao c s) (hz0 : 0 < z.size) (hz : s.size + z.size ≤ 1099511627776) : Fn Try.prog 118 #[.pointer (some ⟨g, 0, none⟩), .slice (some ⟨bl, 0, none⟩) z.size c2] (wrH g p ao c s ++ [byO bl c2 z]) []
    (fun v L' R' => ∃ p' ao' c', v = .tuple #[.int .i64 z.size, .nilIface] ∧ L' = wrH g p' ao' c' (s ++ z) ∧ R' = [] ∧ WOk g p' ao' c' (s ++ z)) := by
  have e1 : brows s ++ brows z = brows (s ++ z) := (brows_append s z).symm
  have e2 : s.size + z.size = (s ++ z).size := by simp
  refine fn_intro Try.func118 rfl Try.ntmps118 rfl (fun E => ?_)
  (repeat (first | ((first | (apply wo_v; rfl) ); (· first | (apply pv_ev; rfl) )) | apply wo_nil | apply wc_seq | apply wc_region ))
  (refine wo_call (bCheck g s.size c p ao hw.p) rfl (by (repeat (first | apply sub_nil )); done) (by first | exact fun _ h => h | (intro r hr; cases hr; done) | (simp; done) | exact fun _ h => List.mem_append_left _ h | (intro r hr; simp [hr]; done)) rfl ?_; rintro v L' R' ⟨rfl, rfl, rfl⟩ H' hH RR hR; simp only [List.cons_append, List.nil_append] at hH hR; subst hH; have hR := hR.symm; subst hR)
  (repeat (first | ((first | (apply wo_v; rfl) ); (· first | (apply pv_ev; rfl) | (apply pv_fld; rfl) | (apply g_load; first | (apply pv_ld; rfl; (· (repeat (first | apply sel_here ))); rfl) ) | (apply g_bi; first | fail ) )) | apply wo_nil | apply wc_seq | apply wc_region ))
  refine wo_app0 rfl rfl (ao := ao) (n := s.size) (c := c) (xs := brows s) (by (repeat (first | apply sel_here | apply sel_there)); done) (c2 := c2) (m := z.size) (ys := brows z) (by (repeat (first | apply sel_here | apply sel_there)); done) (by unfold maxLen; omega) (by omega) rfl (fun ao' c' h1 h2 h3 => ?_)
  rw [e1, e2]
  (repeat (first | ((first | (apply wo_v; rfl) ); (· first | (apply pv_ev; rfl) | (apply pv_fld; rfl) | (apply g_bi; first | (apply pv_len_sl; rfl) ) )) | apply wo_nil | apply wc_seq | apply wc_region | apply wc_ret | (apply wo_st; rfl; rfl; rfl; (· (repeat (first | apply sel_here | apply sel_there))); (· (repeat (first | apply SetAt.here | apply SetAt.there))); rfl) ))
  refine retv rfl (by (repeat (first | apply RV.nil | (apply RV.tmp; rfl) )); done) ⟨some ⟨g, 0, none⟩, ao', c', rfl, rfl, rfl, ⟨.inr rfl, .inr ?_⟩⟩ (by (repeat (first | apply sub_nil )); done) (by first | exact fun _ h => h | (intro r hr; cases hr; done) | (simp; done) | exact fun _ h => List.mem_append_left _ h | (intro r hr; simp [hr]; done))
  cases ao' with
  | none => have := h2 rfl; omega
  | some a =>
    rcases h1 a rfl with ⟨b, h⟩ | h
    · exact ⟨b, h, by omega⟩
    · rcases hw.b with ⟨h5, _, _⟩ | ⟨b, h5, _⟩
      · rw [h5] at h; cases h
      · exact ⟨b, h.trans h5, by omega⟩
theorem wU8 (g c bl c2 : Nat) (p ao : Option Addr) (s z : ByteArray) (hw : WOk g p ao c s) (hz0 : 0 < z.size) (hz : s.size + z.size ≤ 1099511627776) : Fn Try.prog 57 #[.pointer (some ⟨g, 0, none⟩), .slice (some ⟨bl, 0, none⟩) z.size c2] (wrH g p ao c s ++ [byO bl c2 z]) []
    (fun v L' R' => ∃ p' ao' c', v = .pointer (some ⟨g, 0, none⟩) ∧ L' = wrH g p' ao' c' (s ++ z) ∧ R' = [] ∧ WOk g p' ao' c' (s ++ z)) := by
  refine fn_intro Try.func57 rfl Try.ntmps57 rfl (fun E => ?_)
  (repeat (first | ((first | (apply wo_v; rfl) ); (· first | (apply pv_ev; rfl) | (apply pv_fld; rfl) )) | apply wo_nil | apply wc_seq | apply wc_region ))
  (refine wo_call (bWrite g c bl c2 p ao s z hw hz0 hz) rfl (by (repeat (first | apply sub_nil )); done) (by first | exact fun _ h => h | (intro r hr; cases hr; done) | (simp; done) | exact fun _ h => List.mem_append_left _ h | (intro r hr; simp [hr]; done)) rfl ?_; rintro v L' R' ⟨p', ao', c', rfl, rfl, rfl, hw2⟩ H' hH RR hR; simp only [List.cons_append, List.nil_append] at hH hR; subst hH; have hR := hR.symm; subst hR)
  (repeat (first | ((first | (apply wo_v; rfl) ); (· first | (apply pv_ev; rfl) )) | apply wo_nil | apply wc_seq | apply wc_region | apply wc_ret ))
  exact retv rfl (by (repeat (first | apply RV.nil | (apply RV.tmp; rfl) )); done) ⟨p', ao', c', rfl, rfl, rfl, hw2⟩ (by (repeat (first | apply sub_nil )); done) (by first | exact fun _ h => h | (intro r hr; cases hr; done) | (simp; done) | exact fun _ h => List.mem_append_left _ h | (intro r hr; simp [hr]; done))
theorem wLen (g c : Nat) (p ao : Option Addr) (n : Nat) : Fn Try.prog 90 #[.pointer (some ⟨g, 0, none⟩)] [wrO g p ao n c] [] (fun v L' R' => v = .int .i64 n ∧ L' = [wrO g p ao n c] ∧ R' = []) := by
  refine fn_intro Try.func90 rfl Try.ntmps90 rfl (fun E => ?_)
  (repeat (first | ((first | (apply wo_v; rfl) ); (· first | (apply pv_ev; rfl) | (apply pv_fld; rfl) )) | apply wo_nil | apply wc_seq | apply wc_region ))
  (refine wo_call (bLen g n c p ao) rfl (by (repeat (first | apply sub_nil )); done) (by first | exact fun _ h => h | (intro r hr; cases hr; done) | (simp; done) | exact fun _ h => List.mem_append_left _ h | (intro r hr; simp [hr]; done)) rfl ?_; rintro v L' R' ⟨rfl, rfl, rfl⟩ H' hH RR hR; simp only [List.cons_append, List.nil_append] at hH hR; subst hH; have hR := hR.symm; subst hR)
  (repeat (first | ((first | (apply wo_v; rfl) ); (· first | (apply pv_ev; rfl) )) | apply wo_nil | apply wc_ret ))
  exact retv rfl (by (repeat (first | apply RV.nil | (apply RV.tmp; rfl) )); done) (⟨rfl, rfl, rfl⟩) (by (repeat (first | apply sub_nil )); done) (by first | exact fun _ h => h | (intro r hr; cases hr; done) | (simp; done) | exact fun _ h => List.mem_append_left _ h | (intro r hr; simp [hr]; done))
theorem wText (g c : Nat) (p ao : Option Addr) (s : ByteArray) (hw : WOk g p ao c s) : Fn Try.prog 60 #[.pointer (some ⟨g, 0, none⟩)] (wrH g p ao c s) []
    (fun v L' R' => v = .string s ∧ L' = [wrO g p ao s.size c] ∧ R' = []) := by
  refine fn_intro Try.func60 rfl Try.ntmps60 rfl (fun E => ?_)
  (repeat (first | ((first | (apply wo_v; rfl) ); (· first | (apply pv_ev; rfl) | (apply pv_fld; rfl) )) | apply wo_nil | apply wc_seq | apply wc_region ))
  (refine wo_call (bString g c p ao s hw) rfl (by (repeat (first | apply sub_nil )); done) (by first | exact fun _ h => h | (intro r hr; cases hr; done) | (simp; done) | exact fun _ h => List.mem_append_left _ h | (intro r hr; simp [hr]; done)) rfl ?_; rintro v L' R' ⟨rfl, rfl, rfl⟩ H' hH RR hR; simp only [List.cons_append, List.nil_append] at hH hR; subst hH; have hR := hR.symm; subst hR)
  (repeat (first | ((first | (apply wo_v; rfl) ); (· first | (apply pv_ev; rfl) )) | apply wo_nil | apply wc_ret ))
  exact retv rfl (by (repeat (first | apply RV.nil | (apply RV.tmp; rfl) )); done) (⟨rfl, rfl, rfl⟩) (by (repeat (first | apply sub_nil )); done) (by first | exact fun _ h => h | (intro r hr; cases hr; done) | (simp; done) | exact fun _ h => List.mem_append_left _ h | (intro r hr; simp [hr]; done))
/-- a number's bytes, the highest first -/
def numS : Nat → Int → ByteArray
  | 0, _ => E0
  | k + 1, x => numS k (x / 256) ++ b1 (x % 256)
theorem numS_size : ∀ (k : Nat) (x : Int), (numS k x).size = k
  | 0, _ => rfl
  | k + 1, x => by simp [numS, numS_size k, b1_size]
def sh (x : Int) : Nat → Int
  | 0 => x
  | k + 1 => sh x k / 256
theorem sh_nonneg {x : Int} (h : 0 ≤ x) : ∀ k, 0 ≤ sh x k
  | 0 => h
  | k + 1 => by have := sh_nonneg h k; simp only [sh]; omega
theorem sh_fdiv {x : Int} (h : 0 ≤ x) : ∀ k : Nat, k ≤ 7 → x.fdiv (2 ^ (min ((8 * (k : Int)).toNat) IntKind.u64.bits)) = sh x k := by
  intro k hk
  have e : min ((8 * (k : Int)).toNat) IntKind.u64.bits = 8 * k := by
    have : IntKind.u64.bits = 64 := rfl
    omega
  rw [e, Int.fdiv_eq_ediv_of_nonneg _ (Int.le_of_lt (Int.pow_pos (by omega)))]
  clear e
  induction k with
  | zero => simp [sh]
  | succ k ih =>
    rw [sh, ← ih (by omega), show 8 * (k + 1) = 8 * k + 8 by omega, Int.pow_add, ← Int.ediv_ediv_of_nonneg (Int.le_of_lt (Int.pow_pos (by omega)))]
    rfl
end Go.Proofs.Ytlhlidmhlhodiaa

/-
  Package octet: Writer.Num, and what is made of it.
-/
namespace Go.Proofs.Ytlhlidmhlhodiaa
set_option linter.unusedSimpArgs false
set_option linter.unusedVariables false
set_option linter.unusedSimpArgs false
set_option linter.unusedVariables false
open Go.RowKit
set_option maxRecDepth 100000
attribute [local irreducible] Pv WO WC Fn
attribute [local irreducible] ByteArray.extract

def numsS (k : Nat) : List Int → ByteArray
  | [] => E0
  | x :: xs => numS k x ++ numsS k xs
theorem numsS_append (k : Nat) : ∀ a b : List Int, numsS k (a ++ b) = numsS k a ++ numsS k b
  | [], b => (E0_append _).symm
  | x :: a, b => by
    show numS k x ++ numsS k (a ++ b) = (numS k x ++ numsS k a) ++ numsS k b
    rw [numsS_append k a b, ByteArray.append_assoc]
theorem numsS_size (k : Nat) : ∀ a : List Int, (numsS k a).size = k * a.length
  | [] => rfl
  | x :: a => by
    simp only [numsS, ByteArray.size_append, numS_size, numsS_size k a, List.length_cons]
    rw [Nat.mul_add]; omega
theorem numsS_take {k : Nat} {xs : List Int} {j : Nat} {x : Int} (h : xs[j]? = some x) : numsS k (xs.take (j + 1)) = numsS k (xs.take j) ++ numS k x := by
  rw [List.take_add_one, h, numsS_append]
  show numsS k (xs.take j) ++ (numS k x ++ E0) = _
  rw [append_E0]
abbrev uO (bl c : Nat) (xs : List Int) : It := .own 78 1 (some ⟨bl, 0, none⟩) xs.length c (xs.map fun x => [.int .u64 x])
theorem WOk.ex (g : Nat) (s : ByteArray) : ∃ p ao c, WOk g p ao c s := by
  by_cases h : s.size = 0
  · exact ⟨none, none, 0, .inl rfl, .inl ⟨rfl, rfl, size_zero h⟩⟩
  · exact ⟨none, some ⟨0, 0, none⟩, 0, .inl rfl, .inr ⟨0, rfl, by omega⟩⟩
set_option maxHeartbeats 2000000 in
theorem wNum (g c bl c2 : Nat) (p ao : Option Addr) (s : ByteArray) (n : Int) (k : Nat) (xs : List Int) (hk : min (max n 1) 8 = (k : Int)) (hx : ∀ x ∈ xs, 0 ≤ x ∧ x ≤ 18446744073709551615) (hl : xs.length ≤ 1000000) (hw : WOk g p ao c s) (hz : s.size ≤ 1099000000000) :
    Fn Try.prog 120 #[.pointer (some ⟨g, 0, none⟩), .int .i64 n, .slice (some ⟨bl, 0, none⟩) xs.length c2] (wrH g p ao c s ++ [uO bl c2 xs]) []
    (fun v L' R' => ∃ p' ao' c', v = .pointer (some ⟨g, 0, none⟩) ∧ L' = wrH g p' ao' c' (s ++ numsS k xs) ∧ R' = [] ∧ WOk g p' ao' c' (s ++ numsS k xs)) := by
  have hk1 : 1 ≤ k ∧ k ≤ 8 := by omega
  refine fn_intro Try.func120 rfl Try.ntmps120 rfl (fun E => ?_)
  (repeat (first | ((first | (apply wo_v; rfl) ); (· first | (apply pv_ev; rfl) | (apply g_bi; first | (apply pv_len_sl; rfl) | (apply pv_min; rfl; rfl) | (apply pv_max; rfl; rfl)) )) | apply wo_nil | apply wc_seq | apply wc_region | apply wc_block ))
  rw [hk]
  refine wc_loop' (fun m st => ∃ (j : Nat) (p' ao' : Option Addr) (c' : Nat), m = xs.length - j ∧ st = ⟨[(0, .pointer (some ⟨g, 0, none⟩)), (1, .int .i64 k), (13, .slice (some ⟨bl, 0, none⟩) xs.length c2), (14, .int .i64 xs.length), (15, .int .i64 j)], wrH g p' ao' c' (s ++ numsS k (xs.take j)) ++ [uO bl c2 xs], []⟩ ∧ j ≤ xs.length ∧ WOk g p' ao' c' (s ++ numsS k (xs.take j)))
    ⟨0, p, ao, c, rfl, by rw [List.take_zero, show numsS k [] = E0 from rfl, append_E0], Nat.zero_le _, by rw [List.take_zero, show numsS k [] = E0 from rfl, append_E0]; exact hw⟩ (wk_mk (by (repeat (first | apply wkf_nil | (apply wkf_cons; rfl))); done) (by (repeat (first | apply sub_nil )); done) (by first | exact fun _ h => h | (intro r hr; cases hr; done) | (simp; done) | exact fun _ h => List.mem_append_left _ h | (intro r hr; simp [hr]; done))) ?_
  clear hw p ao c hk
  rintro m st ⟨j, p, ao, c, rfl, rfl, hj, hw⟩
  by_cases hlt : j < xs.length
  · obtain ⟨x, he⟩ : ∃ x, xs[j]? = some x := ⟨_, List.getElem?_eq_getElem hlt⟩
    have hr : (xs.map fun x => [Value.int .u64 x])[j]? = some [.int .u64 x] := by simp [he]
    have hxb := hx x (List.mem_of_getElem? he)
    have hS : (s ++ numsS k (xs.take j)).size + 8 ≤ 1099511627776 := by
      rw [ByteArray.size_append, numsS_size, List.length_take]
      have : k * min j xs.length ≤ 8 * 1000000 := Nat.mul_le_mul hk1.2 (by omega)
      omega
    have hnext := numsS_take (k := k) he
    obtain ⟨S0, hS0⟩ : ∃ S0, s ++ numsS k (xs.take j) = S0 := ⟨_, rfl⟩
    have hnx : s ++ numsS k (xs.take (j + 1)) = S0 ++ numS k x := by rw [hnext, ← ByteArray.append_assoc, hS0]
    rw [hS0] at hw hS ⊢
    clear hnext hS0
    (repeat (first | ((first | (apply wo_v; rfl) ); (· first | (apply pv_ev; rfl) | (apply g_load; first | (apply pv_ld; rfl; (· (repeat (first | apply sel_there))); rfl) | (apply pv_ld_ownf; rfl; (· (repeat (first | fail ))); (· assumption); rfl) | (apply pv_ld_own1; rfl; (· (repeat (first | apply sel_here | apply sel_there))); (· assumption)) ) | (apply g_bin; first | (apply a_sub; rfl; rfl; infer_instance; omega) ) | (apply g_idx; first | (apply pv_idx; rfl; rfl; omega) ) )) | apply wo_nil | apply wc_seq | apply wc_region | apply wc_block | apply wc_skip | (apply wc_true; rfl) | (apply wc_false; rfl) | (apply a_dec_t; rfl; (· first | assumption | omega)) ))
    refine wc_loop' (fun m st => ∃ (t : Nat) (z : Int) (p' ao' : Option Addr) (c' : Nat), m = k - t ∧ st = ⟨[(0, .pointer (some ⟨g, 0, none⟩)), (1, .int .i64 k), (8, .int .u64 x), (9, .int .i64 z), (13, .slice (some ⟨bl, 0, none⟩) xs.length c2), (14, .int .i64 xs.length), (15, .int .i64 j)], wrH g p' ao' c' (S0 ++ numS t (sh x (k - t))) ++ [uO bl c2 xs], []⟩ ∧ t ≤ k ∧ z = (k : Int) - 1 - (t : Int) ∧ WOk g p' ao' c' (S0 ++ numS t (sh x (k - t))))
      ⟨0, (k : Int) - 1, p, ao, c, rfl, by rw [show numS 0 (sh x (k - 0)) = E0 from rfl, append_E0], Nat.zero_le _, by omega, by rw [show numS 0 (sh x (k - 0)) = E0 from rfl, append_E0]; exact hw⟩ (wk_mk (by (repeat (first | apply wkf_nil | (apply wkf_cons; rfl))); done) (by (repeat (first | apply sub_nil )); done) (by first | exact fun _ h => h | (intro r hr; cases hr; done) | (simp; done) | exact fun _ h => List.mem_append_left _ h | (intro r hr; simp [hr]; done))) ?_
    clear hw p ao c
    rintro m st ⟨t, z, p, ao, c, rfl, rfl, ht, hz, hw⟩
    by_cases htk : t < k
    · obtain rfl : z = ((k - 1 - t : Nat) : Int) := by omega
      have hsh := sh_nonneg hxb.1 (k - 1 - t)
      have hfd := sh_fdiv hxb.1 (k - 1 - t) (by omega)
      have hs1 : numS (t + 1) (sh x (k - (t + 1))) = numS t (sh x (k - t)) ++ b1 (sh x (k - 1 - t) % 256) := by
        show numS t (sh x (k - (t + 1)) / 256) ++ b1 (sh x (k - (t + 1)) % 256) = _
        rw [show k - (t + 1) = k - 1 - t by omega, show k - t = (k - 1 - t) + 1 by omega]
        rfl
      have hsz : (S0 ++ numS t (sh x (k - t))).size + 1 ≤ 1099511627776 := by rw [ByteArray.size_append, numS_size]; omega
      have hB := fun p ao c hw => bWriteByte g c p ao (S0 ++ numS t (sh x (k - t))) (sh x (k - 1 - t) % 256) (by omega) hw hsz
      rw [ByteArray.append_assoc, ← hs1] at hB
      have hB := hB p ao c hw
      generalize S0 ++ numS t (sh x (k - t)) = S1 at hB hw hsz
      obtain ⟨S2, hS2⟩ : ∃ S2, S0 ++ numS (t + 1) (sh x (k - (t + 1))) = S2 := ⟨_, rfl⟩
      rw [hS2] at hB
      (repeat (first | ((first | (apply wo_v; rfl) ); (· first | (apply pv_ev; rfl) )) | apply wo_nil | apply wc_seq | apply wc_region | apply wc_block | apply wc_skip | (apply wc_true; rfl) ))
      (refine wc_reg [0] (asl [(8, 0)]) (fun _ _ v M => ∃ p' ao' c', v = .nilIface ∧ M = wrH g p' ao' c' S2 ∧ WOk g p' ao' c' S2) ([uO bl c2 xs]) (fm [(0, wrH g p ao c S1)]) mixed (by kernel_rfl) (by kernel_rfl) (by decide) (asl_mem (by decide)) (by (repeat (first | (apply prm_cons; (· (repeat (first | apply sel_here | apply sel_there)))) | apply List.Perm.nil )); done) ?_; (repeat (first | ((first | (apply HdE.val; rfl; rfl; (· first | apply gok_none ))); (· first | (apply pv_ev; rfl) | (apply pv_fld; rfl) | (apply g_bin; first | (apply a_mul; rfl; rfl; infer_instance; omega) | (apply a_shr; rfl; rfl; rfl; omega; rfl) | (apply pv_shr; rfl; rfl; omega) ) | (apply g_conv; first | (apply a_conv; rfl; infer_instance; infer_instance; infer_instance; omega) | (apply a_conv_u; rfl; infer_instance; infer_instance; infer_instance) ) )) )))
      rw [hfd]
      (refine he_eff rfl rfl rfl (by first | exact gok_none | exact gok_run rfl rfl) (outc_call (hB) rfl (by (repeat (first | apply sub_nil )); done) (by first | exact fun _ h => h | (intro r hr; cases hr; done) | (simp; done) | exact fun _ h => List.mem_append_left _ h | (intro r hr; simp [hr]; done)) ?_) ((by obtain ⟨p', ao', c', h⟩ := WOk.ex g S2; exact ⟨_, _, p', ao', c', rfl, rfl, h⟩)) ?_; (· rintro v L' R' ⟨p', ao', c', hv, rfl, _, hw'⟩; exact ⟨_, ⟨p', ao', c', hv, rfl, hw'⟩, (by (repeat (first | (apply prm_cons; (· (repeat (first | apply sel_here )))) | apply List.Perm.nil )); done)⟩); rintro v M ⟨p', ao', c', rfl, rfl, hw'⟩; simp only [setl, reduceIte, Nat.reduceEqDiff]; (repeat (first | fail )))
      (refine HdE.nil ?_; intro H hH; simp only [Hp, fm, look, setl, List.flatMap_cons, List.flatMap_nil, reduceIte, Nat.reduceEqDiff, Option.getD_some, List.append_nil, List.cons_append, List.nil_append] at hH; subst hH)
      (repeat (first | ((first | (apply wo_v; rfl) ); (· first | (apply pv_ev; rfl) | (apply g_bin; first | (apply a_sub; rfl; rfl; infer_instance; omega) ) )) | apply wo_nil | apply wc_region ))
      exact loop_end ⟨t + 1, ((k - 1 - t : Nat) : Int) - 1, p', ao', c', rfl, by rw [hS2], by omega, by omega, by rw [hS2]; exact hw'⟩ (by omega) (wk_mk (by (repeat (first | apply wkf_nil | (apply wkf_cons; rfl))); done) (by (repeat (first | apply sub_nil | (apply sub_cons; (· (repeat (first | apply sel_here | apply sel_there)))))); done) (by first | exact fun _ h => h | (intro r hr; cases hr; done) | (simp; done) | exact fun _ h => List.mem_append_left _ h | (intro r hr; simp [hr]; done)))
    · obtain rfl : t = k := by omega
      rw [Nat.sub_self] at hw ⊢
      rw [show sh x 0 = x from rfl, ← hnx] at hw ⊢
      subst hz
      (repeat (first | ((first | (apply wo_v; rfl) ); (· first | (apply pv_ev; rfl) | (apply g_bin; first | (apply a_add; rfl; rfl; infer_instance; omega) ) )) | apply wo_nil | apply wc_seq | apply wc_region | (apply wc_exit; rfl) | (apply wc_true; rfl) | (apply wc_false; rfl) | (apply a_dec_t; rfl; (· first | assumption | omega)) | (apply a_dec_f; rfl; (· first | assumption | omega)) ))
      exact loop_end ⟨j + 1, p, ao, c, rfl, rfl, by omega, hw⟩ (by omega) (wk_mk (by (repeat (first | apply wkf_nil | (apply wkf_cons; rfl))); done) (by (repeat (first | apply sub_nil )); done) (by first | exact fun _ h => h | (intro r hr; cases hr; done) | (simp; done) | exact fun _ h => List.mem_append_left _ h | (intro r hr; simp [hr]; done)))
  · obtain rfl : j = xs.length := by omega
    rw [List.take_length] at hw ⊢
    (repeat (first | ((first | (apply wo_v; rfl) ); (· first | (apply pv_ev; rfl) )) | apply wo_nil | apply wc_seq | apply wc_region | (apply wc_exit; rfl) | apply wc_ret | (apply wc_true; rfl) | (apply wc_false; rfl) | (apply a_dec_t; rfl; (· first | assumption | omega)) | (apply a_dec_f; rfl; (· first | assumption | omega)) ))
    exact retv rfl (by (repeat (first | apply RV.nil | (apply RV.tmp; rfl) )); done) ⟨p, ao, c, rfl, rfl, rfl, hw⟩ (by (repeat (first | apply sub_nil )); done) (by first | exact fun _ h => h | (intro r hr; cases hr; done) | (simp; done) | exact fun _ h => List.mem_append_left _ h | (intro r hr; simp [hr]; done))
end Go.Proofs.Ytlhlidmhlhodiaa

/-
  Package octet: Writer.U16, U32, Put, Pad.
-/
namespace Go.Proofs.Ytlhlidmhlhodiaa
set_option linter.unusedSimpArgs false
set_option linter.unusedVariables false
set_option linter.unusedSimpArgs false
set_option linter.unusedVariables false
open Go.RowKit
set_option maxRecDepth 100000
attribute [local irreducible] Pv WO WC Fn
attribute [local irreducible] ByteArray.extract

theorem min_max_lit (n : Int) (h : 1 ≤ n ∧ n ≤ 8) : min (max n 1) 8 = n := by omega
abbrev u16O (bl c : Nat) (xs : List Int) : It := .own 24 1 (some ⟨bl, 0, none⟩) xs.length c (xs.map fun x => [.int .u16 x])
set_option maxHeartbeats 1000000 in
theorem wU16 (g c bl c2 : Nat) (p ao : Option Addr) (s : ByteArray) (xs : List Int) (hx : ∀ x ∈ xs, 0 ≤ x ∧ x ≤ 65535) (hl : xs.length ≤ 1000000) (hw : WOk g p ao c s) (hz : s.size ≤ 1098000000000) :
    Fn Try.prog 61 #[.pointer (some ⟨g, 0, none⟩), .slice (some ⟨bl, 0, none⟩) xs.length c2] (wrH g p ao c s ++ [u16O bl c2 xs]) []
    (fun v L' R' => ∃ p' ao' c', v = .pointer (some ⟨g, 0, none⟩) ∧ L' = wrH g p' ao' c' (s ++ numsS 2 xs) ∧ R' = [] ∧ WOk g p' ao' c' (s ++ numsS 2 xs)) := by
  refine fn_intro Try.func61 rfl Try.ntmps61 rfl (fun E => ?_)
  (repeat (first | ((first | (apply wo_v; rfl) ); (· first | (apply pv_ev; rfl) | (apply g_bi; first | (apply pv_len_sl; rfl) ) )) | apply wo_nil | apply wc_seq | apply wc_region | apply wc_block ))
  refine wc_loop' (fun m st => ∃ (j : Nat) (p' ao' : Option Addr) (c' : Nat), m = xs.length - j ∧ st = ⟨[(0, .pointer (some ⟨g, 0, none⟩)), (7, .slice (some ⟨bl, 0, none⟩) xs.length c2), (8, .int .i64 xs.length), (9, .int .i64 j)], wrH g p' ao' c' (s ++ numsS 2 (xs.take j)) ++ [u16O bl c2 xs], []⟩ ∧ j ≤ xs.length ∧ WOk g p' ao' c' (s ++ numsS 2 (xs.take j)))
    ⟨0, p, ao, c, rfl, by rw [List.take_zero, show numsS 2 [] = E0 from rfl, append_E0], Nat.zero_le _, by rw [List.take_zero, show numsS 2 [] = E0 from rfl, append_E0]; exact hw⟩ (wk_mk (by (repeat (first | apply wkf_nil | (apply wkf_cons; rfl))); done) (by (repeat (first | apply sub_nil )); done) (by first | exact fun _ h => h | (intro r hr; cases hr; done) | (simp; done) | exact fun _ h => List.mem_append_left _ h | (intro r hr; simp [hr]; done))) ?_
  clear hw p ao c
  rintro m st ⟨j, p, ao, c, rfl, rfl, hj, hw⟩
  by_cases hlt : j < xs.length
  · obtain ⟨x, he⟩ : ∃ x, xs[j]? = some x := ⟨_, List.getElem?_eq_getElem hlt⟩
    have hr : (xs.map fun x => [Value.int .u16 x])[j]? = some [.int .u16 x] := by simp [he]
    have hxb := hx x (List.mem_of_getElem? he)
    have hS : (s ++ numsS 2 (xs.take j)).size ≤ 1099000000000 := by
      rw [ByteArray.size_append, numsS_size, List.length_take]; omega
    have hnext := numsS_take (k := 2) he
    obtain ⟨S0, hS0⟩ : ∃ S0, s ++ numsS 2 (xs.take j) = S0 := ⟨_, rfl⟩
    have hnx : s ++ numsS 2 (xs.take (j + 1)) = S0 ++ numsS 2 [x] := by rw [hnext, ← ByteArray.append_assoc, hS0]; show S0 ++ numS 2 x = S0 ++ (numS 2 x ++ E0); rw [append_E0]
    rw [hS0] at hw hS ⊢
    clear hnext hS0
    have hN := fun bl c2 => wNum g c bl c2 p ao S0 2 2 [x] rfl (by intro y hy; rcases List.mem_singleton.1 hy with rfl; omega) (by simp) hw hS
    rw [← hnx] at hN
    (repeat (first | ((first | (apply wo_v; rfl) ); (· first | (apply pv_ev; rfl) | (apply g_load; first | (apply pv_ld; rfl; (· (repeat (first | apply sel_there))); rfl) | (apply pv_ld_ownf; rfl; (· (repeat (first | fail ))); (· assumption); rfl) | (apply pv_ld_own1; rfl; (· (repeat (first | apply sel_here | apply sel_there))); (· assumption)) ) | (apply g_conv; first | (apply a_conv; rfl; infer_instance; infer_instance; infer_instance; omega) ) | (apply g_idx; first | (apply pv_idx; rfl; rfl; omega) ) )) | apply wo_nil | apply wc_seq | apply wc_region | apply wc_block | apply wc_skip | (apply wc_true; rfl) | (apply wc_false; rfl) | (apply a_dec_t; rfl; (· first | assumption | omega)) | (apply wo_bsl; (· (repeat (first | apply Rws'.nil | (apply Rws'.one; rfl; rfl; rfl) ))); rfl; rfl; rfl; rfl; intro bx) ))
    (refine wo_call (hN _ _) rfl (by (repeat (first | apply sub_nil | (apply sub_cons; (· (repeat (first | apply sel_here | apply sel_there)))))); done) (by first | exact fun _ h => h | (intro r hr; cases hr; done) | (simp; done) | exact fun _ h => List.mem_append_left _ h | (intro r hr; simp [hr]; done)) rfl ?_; rintro v L' R' ⟨p', ao', c', rfl, rfl, rfl, hw'⟩ H' hH RR hR; simp only [List.cons_append, List.nil_append] at hH hR; subst hH; have hR := hR.symm; subst hR)
    (repeat (first | ((first | (apply wo_v; rfl) ); (· first | (apply pv_ev; rfl) | (apply g_bin; first | (apply a_add; rfl; rfl; infer_instance; omega) ) )) | apply wo_nil | apply wc_region ))
    exact loop_end ⟨j + 1, p', ao', c', rfl, rfl, by omega, hw'⟩ (by omega) (wk_mk (by (repeat (first | apply wkf_nil | (apply wkf_cons; rfl))); done) (by (repeat (first | apply sub_nil )); done) (by first | exact fun _ h => h | (intro r hr; cases hr; done) | (simp; done) | exact fun _ h => List.mem_append_left _ h | (intro r hr; simp [hr]; done)))
  · obtain rfl : j = xs.length := by omega
    rw [List.take_length] at hw ⊢
    (repeat (first | ((first | (apply wo_v; rfl) ); (· first | (apply pv_ev; rfl) )) | apply wo_nil | apply wc_seq | apply wc_region | (apply wc_exit; rfl) | apply wc_ret | (apply wc_true; rfl) | (apply wc_false; rfl) | (apply a_dec_t; rfl; (· first | assumption | omega)) | (apply a_dec_f; rfl; (· first | assumption | omega)) ))
    exact retv rfl (by (repeat (first | apply RV.nil | (apply RV.tmp; rfl) )); done) ⟨p, ao, c, rfl, rfl, rfl, hw⟩ (by (repeat (first | apply sub_nil )); done) (by first | exact fun _ h => h | (intro r hr; cases hr; done) | (simp; done) | exact fun _ h => List.mem_append_left _ h | (intro r hr; simp [hr]; done))
abbrev u32O (bl c : Nat) (xs : List Int) : It := .own 30 1 (some ⟨bl, 0, none⟩) xs.length c (xs.map fun x => [.int .u32 x])
set_option maxHeartbeats 1000000 in
theorem wU32 (g c bl c2 : Nat) (p ao : Option Addr) (s : ByteArray) (xs : List Int) (hx : ∀ x ∈ xs, 0 ≤ x ∧ x ≤ 4294967295) (hl : xs.length ≤ 1000000) (hw : WOk g p ao c s) (hz : s.size ≤ 1098000000000) :
    Fn Try.prog 72 #[.pointer (some ⟨g, 0, none⟩), .slice (some ⟨bl, 0, none⟩) xs.length c2] (wrH g p ao c s ++ [u32O bl c2 xs]) []
    (fun v L' R' => ∃ p' ao' c', v = .pointer (some ⟨g, 0, none⟩) ∧ L' = wrH g p' ao' c' (s ++ numsS 4 xs) ∧ R' = [] ∧ WOk g p' ao' c' (s ++ numsS 4 xs)) := by
  refine fn_intro Try.func72 rfl Try.ntmps72 rfl (fun E => ?_)
  (repeat (first | ((first | (apply wo_v; rfl) ); (· first | (apply pv_ev; rfl) | (apply g_bi; first | (apply pv_len_sl; rfl) ) )) | apply wo_nil | apply wc_seq | apply wc_region | apply wc_block ))
  refine wc_loop' (fun m st => ∃ (j : Nat) (p' ao' : Option Addr) (c' : Nat), m = xs.length - j ∧ st = ⟨[(0, .pointer (some ⟨g, 0, none⟩)), (7, .slice (some ⟨bl, 0, none⟩) xs.length c2), (8, .int .i64 xs.length), (9, .int .i64 j)], wrH g p' ao' c' (s ++ numsS 4 (xs.take j)) ++ [u32O bl c2 xs], []⟩ ∧ j ≤ xs.length ∧ WOk g p' ao' c' (s ++ numsS 4 (xs.take j)))
    ⟨0, p, ao, c, rfl, by rw [List.take_zero, show numsS 4 [] = E0 from rfl, append_E0], Nat.zero_le _, by rw [List.take_zero, show numsS 4 [] = E0 from rfl, append_E0]; exact hw⟩ (wk_mk (by (repeat (first | apply wkf_nil | (apply wkf_cons; rfl))); done) (by (repeat (first | apply sub_nil )); done) (by first | exact fun _ h => h | (intro r hr; cases hr; done) | (simp; done) | exact fun _ h => List.mem_append_left _ h | (intro r hr; simp [hr]; done))) ?_
  clear hw p ao c
  rintro m st ⟨j, p, ao, c, rfl, rfl, hj, hw⟩
  by_cases hlt : j < xs.length
  · obtain ⟨x, he⟩ : ∃ x, xs[j]? = some x := ⟨_, List.getElem?_eq_getElem hlt⟩
    have hr : (xs.map fun x => [Value.int .u32 x])[j]? = some [.int .u32 x] := by simp [he]
    have hxb := hx x (List.mem_of_getElem? he)
    have hS : (s ++ numsS 4 (xs.take j)).size ≤ 1099000000000 := by
      rw [ByteArray.size_append, numsS_size, List.length_take]; omega
    have hnext := numsS_take (k := 4) he
    obtain ⟨S0, hS0⟩ : ∃ S0, s ++ numsS 4 (xs.take j) = S0 := ⟨_, rfl⟩
    have hnx : s ++ numsS 4 (xs.take (j + 1)) = S0 ++ numsS 4 [x] := by rw [hnext, ← ByteArray.append_assoc, hS0]; show S0 ++ numS 4 x = S0 ++ (numS 4 x ++ E0); rw [append_E0]
    rw [hS0] at hw hS ⊢
    clear hnext hS0
    have hN := fun bl c2 => wNum g c bl c2 p ao S0 4 4 [x] rfl (by intro y hy; rcases List.mem_singleton.1 hy with rfl; omega) (by simp) hw hS
    rw [← hnx] at hN
    (repeat (first | ((first | (apply wo_v; rfl) ); (· first | (apply pv_ev; rfl) | (apply g_load; first | (apply pv_ld; rfl; (· (repeat (first | apply sel_there))); rfl) | (apply pv_ld_ownf; rfl; (· (repeat (first | fail ))); (· assumption); rfl) | (apply pv_ld_own1; rfl; (· (repeat (first | apply sel_here | apply sel_there))); (· assumption)) ) | (apply g_conv; first | (apply a_conv; rfl; infer_instance; infer_instance; infer_instance; omega) ) | (apply g_idx; first | (apply pv_idx; rfl; rfl; omega) ) )) | apply wo_nil | apply wc_seq | apply wc_region | apply wc_block | apply wc_skip | (apply wc_true; rfl) | (apply wc_false; rfl) | (apply a_dec_t; rfl; (· first | assumption | omega)) | (apply wo_bsl; (· (repeat (first | apply Rws'.nil | (apply Rws'.one; rfl; rfl; rfl) ))); rfl; rfl; rfl; rfl; intro bx) ))
    (refine wo_call (hN _ _) rfl (by (repeat (first | apply sub_nil | (apply sub_cons; (· (repeat (first | apply sel_here | apply sel_there)))))); done) (by first | exact fun _ h => h | (intro r hr; cases hr; done) | (simp; done) | exact fun _ h => List.mem_append_left _ h | (intro r hr; simp [hr]; done)) rfl ?_; rintro v L' R' ⟨p', ao', c', rfl, rfl, rfl, hw'⟩ H' hH RR hR; simp only [List.cons_append, List.nil_append] at hH hR; subst hH; have hR := hR.symm; subst hR)
    (repeat (first | ((first | (apply wo_v; rfl) ); (· first | (apply pv_ev; rfl) | (apply g_bin; first | (apply a_add; rfl; rfl; infer_instance; omega) ) )) | apply wo_nil | apply wc_region ))
    exact loop_end ⟨j + 1, p', ao', c', rfl, rfl, by omega, hw'⟩ (by omega) (wk_mk (by (repeat (first | apply wkf_nil | (apply wkf_cons; rfl))); done) (by (repeat (first | apply sub_nil )); done) (by first | exact fun _ h => h | (intro r hr; cases hr; done) | (simp; done) | exact fun _ h => List.mem_append_left _ h | (intro r hr; simp [hr]; done)))
  · obtain rfl : j = xs.length := by omega
    rw [List.take_length] at hw ⊢
    (repeat (first | ((first | (apply wo_v; rfl) ); (· first | (apply pv_ev; rfl) )) | apply wo_nil | apply wc_seq | apply wc_region | (apply wc_exit; rfl) | apply wc_ret | (apply wc_true; rfl) | (apply wc_false; rfl) | (apply a_dec_t; rfl; (· first | assumption | omega)) | (apply a_dec_f; rfl; (· first | assumption | omega)) ))
    exact retv rfl (by (repeat (first | apply RV.nil | (apply RV.tmp; rfl) )); done) ⟨p, ao, c, rfl, rfl, rfl, hw⟩ (by (repeat (first | apply sub_nil )); done) (by first | exact fun _ h => h | (intro r hr; cases hr; done) | (simp; done) | exact fun _ h => List.mem_append_left _ h | (intro r hr; simp [hr]; done))
def catS : List ByteArray → ByteArray
  | [] => E0
  | z :: zs => z ++ catS zs
theorem catS_append : ∀ a b : List ByteArray, catS (a ++ b) = catS a ++ catS b
  | [], b => (E0_append _).symm
  | x :: a, b => by
    show x ++ catS (a ++ b) = (x ++ catS a) ++ catS b
    rw [catS_append a b, ByteArray.append_assoc]
theorem catS_take {zs : List ByteArray} {j : Nat} {z : ByteArray} (h : zs[j]? = some z) : catS (zs.take (j + 1)) = catS (zs.take j) ++ z := by
  rw [List.take_add_one, h, catS_append]
  show catS (zs.take j) ++ (z ++ E0) = _
  rw [append_E0]
theorem catS_size : ∀ {zs : List ByteArray}, (∀ z ∈ zs, z.size ≤ 1000000) → (catS zs).size ≤ 1000000 * zs.length
  | [], _ => Nat.le_refl _
  | z :: zs, h => by
    have h1 := h z (.head _)
    have h2 := catS_size (zs := zs) (fun y hy => h y (.tail _ hy))
    simp only [catS, ByteArray.size_append, List.length_cons]; omega
abbrev stO (bl c : Nat) (zs : List ByteArray) : It := .own 9 1 (some ⟨bl, 0, none⟩) zs.length c (zs.map fun z => [.string z])
set_option maxHeartbeats 1000000 in
theorem wPut (g c bl c2 : Nat) (p ao : Option Addr) (s : ByteArray) (zs : List ByteArray) (hx : ∀ z ∈ zs, z.size ≤ 1000000) (hl : zs.length ≤ 1000) (hw : WOk g p ao c s) (hz : s.size ≤ 1098000000000) :
    Fn Try.prog 73 #[.pointer (some ⟨g, 0, none⟩), .slice (some ⟨bl, 0, none⟩) zs.length c2] (wrH g p ao c s ++ [stO bl c2 zs]) []
    (fun v L' R' => ∃ p' ao' c', v = .pointer (some ⟨g, 0, none⟩) ∧ L' = wrH g p' ao' c' (s ++ catS zs) ∧ R' = [] ∧ WOk g p' ao' c' (s ++ catS zs)) := by
  refine fn_intro Try.func73 rfl Try.ntmps73 rfl (fun E => ?_)
  (repeat (first | ((first | (apply wo_v; rfl) ); (· first | (apply pv_ev; rfl) | (apply g_bi; first | (apply pv_len_sl; rfl) ) )) | apply wo_nil | apply wc_seq | apply wc_region | apply wc_block ))
  refine wc_loop' (fun m st => ∃ (j : Nat) (p' ao' : Option Addr) (c' : Nat), m = zs.length - j ∧ st = ⟨[(0, .pointer (some ⟨g, 0, none⟩)), (7, .slice (some ⟨bl, 0, none⟩) zs.length c2), (8, .int .i64 zs.length), (9, .int .i64 j)], wrH g p' ao' c' (s ++ catS (zs.take j)) ++ [stO bl c2 zs], []⟩ ∧ j ≤ zs.length ∧ WOk g p' ao' c' (s ++ catS (zs.take j)))
    ⟨0, p, ao, c, rfl, by rw [List.take_zero, show catS [] = E0 from rfl, append_E0], Nat.zero_le _, by rw [List.take_zero, show catS [] = E0 from rfl, append_E0]; exact hw⟩ (wk_mk (by (repeat (first | apply wkf_nil | (apply wkf_cons; rfl))); done) (by (repeat (first | apply sub_nil )); done) (by first | exact fun _ h => h | (intro r hr; cases hr; done) | (simp; done) | exact fun _ h => List.mem_append_left _ h | (intro r hr; simp [hr]; done))) ?_
  clear hw p ao c
  rintro m st ⟨j, p, ao, c, rfl, rfl, hj, hw⟩
  by_cases hlt : j < zs.length
  · obtain ⟨x, he⟩ : ∃ x, zs[j]? = some x := ⟨_, List.getElem?_eq_getElem hlt⟩
    have hr : (zs.map fun z => [Value.string z])[j]? = some [.string x] := by simp [he]
    have hxb := hx x (List.mem_of_getElem? he)
    have hS : (s ++ catS (zs.take j)).size + x.size ≤ 1099511627776 := by
      have := catS_size (zs := zs.take j) (fun y hy => hx y (List.mem_of_mem_take hy))
      rw [List.length_take] at this
      rw [ByteArray.size_append]; omega
    have hnext := catS_take he
    obtain ⟨S0, hS0⟩ : ∃ S0, s ++ catS (zs.take j) = S0 := ⟨_, rfl⟩
    have hnx : s ++ catS (zs.take (j + 1)) = S0 ++ x := by rw [hnext, ← ByteArray.append_assoc, hS0]
    rw [hS0] at hw hS ⊢
    clear hnext hS0
    have hN := bWriteString g c p ao S0 x hw hS
    rw [← hnx] at hN
    (repeat (first | ((first | (apply wo_v; rfl) ); (· first | (apply pv_ev; rfl) | (apply pv_fld; rfl) | (apply g_load; first | (apply pv_ld; rfl; (· (repeat (first | apply sel_there))); rfl) | (apply pv_ld_ownf; rfl; (· (repeat (first | fail ))); (· assumption); rfl) | (apply pv_ld_own1; rfl; (· (repeat (first | apply sel_here | apply sel_there))); (· assumption)) ) | (apply g_idx; first | (apply pv_idx; rfl; rfl; omega) ) )) | apply wo_nil | apply wc_seq | apply wc_region | apply wc_block | apply wc_skip | (apply wc_true; rfl) | (apply wc_false; rfl) | (apply a_dec_t; rfl; (· first | assumption | omega)) ))
    (refine wo_call (hN) rfl (by (repeat (first | apply sub_nil )); done) (by first | exact fun _ h => h | (intro r hr; cases hr; done) | (simp; done) | exact fun _ h => List.mem_append_left _ h | (intro r hr; simp [hr]; done)) rfl ?_; rintro v L' R' ⟨p', ao', c', rfl, rfl, rfl, hw'⟩ H' hH RR hR; simp only [List.cons_append, List.nil_append] at hH hR; subst hH; have hR := hR.symm; subst hR)
    (repeat (first | ((first | (apply wo_v; rfl) ); (· first | (apply pv_ev; rfl) | (apply g_bin; first | (apply a_add; rfl; rfl; infer_instance; omega) ) )) | apply wo_nil | apply wc_region ))
    exact loop_end ⟨j + 1, p', ao', c', rfl, rfl, by omega, hw'⟩ (by omega) (wk_mk (by (repeat (first | apply wkf_nil | (apply wkf_cons; rfl))); done) (by (repeat (first | apply sub_nil )); done) (by first | exact fun _ h => h | (intro r hr; cases hr; done) | (simp; done) | exact fun _ h => List.mem_append_left _ h | (intro r hr; simp [hr]; done)))
  · obtain rfl : j = zs.length := by omega
    rw [List.take_length] at hw ⊢
    (repeat (first | ((first | (apply wo_v; rfl) ); (· first | (apply pv_ev; rfl) )) | apply wo_nil | apply wc_seq | apply wc_region | (apply wc_exit; rfl) | apply wc_ret | (apply wc_true; rfl) | (apply wc_false; rfl) | (apply a_dec_t; rfl; (· first | assumption | omega)) | (apply a_dec_f; rfl; (· first | assumption | omega)) ))
    exact retv rfl (by (repeat (first | apply RV.nil | (apply RV.tmp; rfl) )); done) ⟨p, ao, c, rfl, rfl, rfl, hw⟩ (by (repeat (first | apply sub_nil )); done) (by first | exact fun _ h => h | (intro r hr; cases hr; done) | (simp; done) | exact fun _ h => List.mem_append_left _ h | (intro r hr; simp [hr]; done))
/-- so many zeros -/
def zb : Nat → ByteArray
  | 0 => E0
  | k + 1 => zb k ++ b1 0
theorem zb_size : ∀ k, (zb k).size = k
  | 0 => rfl
  | k + 1 => by simp [zb, zb_size k, b1_size]
def padJ (n T : Nat) : Nat := (T - n % T) % T
theorem padJ_lt (n : Nat) {T : Nat} (hT : 1 ≤ T) : padJ n T < T := Nat.mod_lt _ (by omega)
theorem padJ_eq (n : Nat) {T : Nat} (hT : 1 ≤ T) : (n + padJ n T) % T = 0 := by
  unfold padJ
  have h1 := Nat.mod_lt n (show 0 < T by omega)
  by_cases h : n % T = 0
  · rw [h, Nat.sub_zero, Nat.mod_self, Nat.add_zero]; exact h
  · rw [Nat.mod_eq_of_lt (show T - n % T < T by omega), Nat.add_mod, Nat.mod_eq_of_lt (show T - n % T < T by omega), show n % T + (T - n % T) = T by omega, Nat.mod_self]
theorem padJ_ne {n T j : Nat} (hT : 1 ≤ T) (hj : j < padJ n T) : (n + j) % T ≠ 0 := by
  have h1 := Nat.mod_lt n (show 0 < T by omega)
  unfold padJ at hj
  by_cases h : n % T = 0
  · rw [h, Nat.sub_zero, Nat.mod_self] at hj; omega
  · rw [Nat.mod_eq_of_lt (show T - n % T < T by omega)] at hj
    rw [Nat.add_mod, Nat.mod_eq_of_lt (show j < T by omega), Nat.mod_eq_of_lt (show n % T + j < T by omega)]
    omega
set_option maxHeartbeats 1000000 in
theorem wPad (g c : Nat) (p ao : Option Addr) (s : ByteArray) (to : Int) (T : Nat) (hT : max to 1 = (T : Int)) (hT2 : T ≤ 1000000) (hw : WOk g p ao c s) (hz : s.size ≤ 1098000000000) :
    Fn Try.prog 89 #[.pointer (some ⟨g, 0, none⟩), .int .i64 to] (wrH g p ao c s) []
    (fun v L' R' => ∃ p' ao' c', v = .pointer (some ⟨g, 0, none⟩) ∧ L' = wrH g p' ao' c' (s ++ zb (padJ s.size T)) ∧ R' = [] ∧ WOk g p' ao' c' (s ++ zb (padJ s.size T))) := by
  have hT1 : 1 ≤ T := by omega
  have hJ := padJ_lt s.size hT1
  refine fn_intro Try.func89 rfl Try.ntmps89 rfl (fun E => ?_)
  (repeat (first | ((first | (apply wo_v; rfl) ); (· first | (apply pv_ev; rfl) | (apply g_bi; first | (apply pv_max; rfl; rfl)) )) | apply wo_nil | apply wc_seq | apply wc_region | apply wc_block ))
  rw [hT]
  refine wc_loop' (fun m st => ∃ (j : Nat) (p' ao' : Option Addr) (c' : Nat), m = padJ s.size T - j ∧ st = ⟨[(0, .pointer (some ⟨g, 0, none⟩)), (1, .int .i64 T)], wrH g p' ao' c' (s ++ zb j), []⟩ ∧ j ≤ padJ s.size T ∧ WOk g p' ao' c' (s ++ zb j))
    ⟨0, p, ao, c, rfl, by rw [show zb 0 = E0 from rfl, append_E0], Nat.zero_le _, by rw [show zb 0 = E0 from rfl, append_E0]; exact hw⟩ (wk_mk (by (repeat (first | apply wkf_nil | (apply wkf_cons; rfl))); done) (by (repeat (first | apply sub_nil )); done) (by first | exact fun _ h => h | (intro r hr; cases hr; done) | (simp; done) | exact fun _ h => List.mem_append_left _ h | (intro r hr; simp [hr]; done))) ?_
  clear hw p ao c hT
  rintro m st ⟨j, p, ao, c, rfl, rfl, hj, hw⟩
  have hsz : (s ++ zb j).size = s.size + j := by rw [ByteArray.size_append, zb_size]
  have hL := wLen g c p ao (s ++ zb j).size
  by_cases hlt : j < padJ s.size T
  · have hne : ¬ (((s ++ zb j).size : Nat) : Int) % (T : Int) = 0 := by
      rw [hsz]; have := padJ_ne hT1 hlt; omega
    have hB := bWriteByte g c p ao (s ++ zb j) 0 (by omega) hw (by omega)
    rw [show s ++ zb j ++ b1 0 = s ++ zb (j + 1) from ByteArray.append_assoc] at hB
    generalize s ++ zb j = S0 at hL hB hne hw
    (repeat (first | ((first | (apply wo_v; rfl) ); (· first | (apply pv_ev; rfl) )) | apply wc_seq | apply wc_region ))
    (refine wo_call (hL) rfl (by (repeat (first | apply sub_nil )); done) (by first | exact fun _ h => h | (intro r hr; cases hr; done) | (simp; done) | exact fun _ h => List.mem_append_left _ h | (intro r hr; simp [hr]; done)) rfl ?_; rintro v L' R' ⟨rfl, rfl, rfl⟩ H' hH RR hR; simp only [List.cons_append, List.nil_append] at hH hR; subst hH; have hR := hR.symm; subst hR)
    (repeat (first | ((first | (apply wo_v; rfl) ); (· first | (apply pv_ev; rfl) | (apply pv_fld; rfl) | (apply g_bin; first | (apply pv_rem; rfl; rfl; omega) ) )) | apply wo_nil | apply wc_region | apply wc_block | apply wc_skip | (apply wc_true; rfl) | (apply wc_false; rfl) | (apply a_dec_t; rfl; (· first | assumption | omega)) ))
    (refine wo_call (hB) rfl (by (repeat (first | apply sub_nil )); done) (by first | exact fun _ h => h | (intro r hr; cases hr; done) | (simp; done) | exact fun _ h => List.mem_append_left _ h | (intro r hr; simp [hr]; done)) rfl ?_; rintro v L' R' ⟨p', ao', c', rfl, rfl, rfl, hw'⟩ H' hH RR hR; simp only [List.cons_append, List.nil_append] at hH hR; subst hH; have hR := hR.symm; subst hR)
    (repeat (first | apply wo_nil ))
    exact loop_end ⟨j + 1, p', ao', c', rfl, rfl, by omega, hw'⟩ (by omega) (wk_mk (by (repeat (first | apply wkf_nil | (apply wkf_cons; rfl))); done) (by (repeat (first | apply sub_nil )); done) (by first | exact fun _ h => h | (intro r hr; cases hr; done) | (simp; done) | exact fun _ h => List.mem_append_left _ h | (intro r hr; simp [hr]; done)))
  · obtain rfl : j = padJ s.size T := by omega
    have hne : (((s ++ zb (padJ s.size T)).size : Nat) : Int) % (T : Int) = 0 := by
      rw [hsz]; have := padJ_eq s.size hT1; omega
    generalize s ++ zb (padJ s.size T) = S0 at hL hne hw
    (repeat (first | ((first | (apply wo_v; rfl) ); (· first | (apply pv_ev; rfl) )) | apply wc_seq | apply wc_region ))
    (refine wo_call (hL) rfl (by (repeat (first | apply sub_nil )); done) (by first | exact fun _ h => h | (intro r hr; cases hr; done) | (simp; done) | exact fun _ h => List.mem_append_left _ h | (intro r hr; simp [hr]; done)) rfl ?_; rintro v L' R' ⟨rfl, rfl, rfl⟩ H' hH RR hR; simp only [List.cons_append, List.nil_append] at hH hR; subst hH; have hR := hR.symm; subst hR)
    (repeat (first | ((first | (apply wo_v; rfl) ); (· first | (apply pv_ev; rfl) | (apply g_bin; first | (apply pv_rem; rfl; rfl; omega) ) )) | apply wo_nil | apply wc_seq | apply wc_region | (apply wc_exit; rfl) | apply wc_ret | (apply wc_true; rfl) | (apply wc_false; rfl) | (apply a_dec_t; rfl; (· first | assumption | omega)) | (apply a_dec_f; rfl; (· first | assumption | omega)) ))
    exact retv rfl (by (repeat (first | apply RV.nil | (apply RV.tmp; rfl) )); done) ⟨p, ao, c, rfl, rfl, rfl, hw⟩ (by (repeat (first | apply sub_nil )); done) (by first | exact fun _ h => h | (intro r hr; cases hr; done) | (simp; done) | exact fun _ h => List.mem_append_left _ h | (intro r hr; simp [hr]; done))
end Go.Proofs.Ytlhlidmhlhodiaa

/-
  Layer 2: numbers written and read; the reference's Num.
-/
namespace Go.Proofs.Ytlhlidmhlhodiaa
set_option linter.unusedSimpArgs false
set_option linter.unusedVariables false
set_option linter.unusedSimpArgs false
set_option linter.unusedVariables false
open Go.RowKit
set_option maxRecDepth 100000
attribute [local irreducible] Pv WO WC Fn

theorem sb_left (a b : ByteArray) {i : Nat} (h : i < a.size) : sb (a ++ b) i = sb a i := by
  have h' : i < a.data.toList.length := by simpa using h
  unfold sb
  congr 2
  rw [ByteArray.data_append, Array.toList_append, List.getD_eq_getElem?_getD, List.getD_eq_getElem?_getD, List.getElem?_append_left h']
theorem sb_last (a : ByteArray) {x : Int} (h : 0 ≤ x ∧ x ≤ 255) : sb (a ++ b1 x) a.size = x := by
  have e : (((UInt8.ofNat x.toNat).toNat : Nat) : Int) = x := by
    simp only [UInt8.toNat_ofNat']; omega
  unfold sb
  rw [ByteArray.data_append, Array.toList_append, List.getD_eq_getElem?_getD, List.getElem?_append_right (by simp)]
  have : a.size - a.data.toList.length = 0 := by simp
  rw [this]
  exact e
theorem valK_left (a b : ByteArray) : ∀ k, k ≤ a.size → valK (a ++ b) k = valK a k
  | 0, _ => rfl
  | k + 1, h => by rw [valK, valK, valK_left a b k (by omega), sb_left a b (by omega)]
theorem valK_b1 (a : ByteArray) {x : Int} (h : 0 ≤ x ∧ x ≤ 255) : valK (a ++ b1 x) (a.size + 1) = valK a a.size * 256 + x := by
  rw [valK, valK_left a _ _ (Nat.le_refl _), sb_last a h]
theorem valK_num (k : Nat) (x : Int) : valK (numS (k + 1) x) (k + 1) = valK (numS k (x / 256)) k * 256 + x % 256 := by
  have := valK_b1 (numS k (x / 256)) (x := x % 256) (by omega)
  rw [numS_size] at this
  exact this
theorem num_val : ∀ (k : Nat) (x : Int), numS k (valK (numS k x) k) = numS k x
  | 0, _ => rfl
  | k + 1, x => by
    rw [valK_num]
    show numS k ((valK (numS k (x / 256)) k * 256 + x % 256) / 256) ++ b1 ((valK (numS k (x / 256)) k * 256 + x % 256) % 256) = numS k (x / 256) ++ b1 (x % 256)
    rw [show (valK (numS k (x / 256)) k * 256 + x % 256) / 256 = valK (numS k (x / 256)) k by omega, show (valK (numS k (x / 256)) k * 256 + x % 256) % 256 = x % 256 by omega, num_val k]
theorem val_num2 {x : Int} (h : 0 ≤ x ∧ x ≤ 65535) : valK (numS 2 x) 2 = x := by
  rw [valK_num, valK_num]
  show (0 * 256 + x / 256 % 256) * 256 + x % 256 = x
  omega
theorem val_num4 {x : Int} (h : 0 ≤ x ∧ x ≤ 4294967295) : valK (numS 4 x) 4 = x := by
  rw [valK_num, valK_num, valK_num, valK_num]
  show (((0 * 256 + x / 256 / 256 / 256 % 256) * 256 + x / 256 / 256 % 256) * 256 + x / 256 % 256) * 256 + x % 256 = x
  omega
theorem val_b1 {x : Int} (h : 0 ≤ x ∧ x ≤ 255) : valK (b1 x) 1 = x := by
  have := valK_b1 E0 h
  rw [E0_append] at this
  have e : valK (b1 x) 1 = valK E0 0 * 256 + x := this
  rw [e]
  show 0 * 256 + x = x
  omega
theorem numS_front : ∀ (k : Nat) (x : Int), numS (k + 1) x = b1 (sh x k % 256) ++ numS k x
  | 0, x => by
    show E0 ++ b1 (x % 256) = b1 (x % 256) ++ E0
    rw [E0_append, append_E0]
  | k + 1, x => by
    have e : ∀ k, sh (x / 256) k = sh x (k + 1) := fun k => by
      induction k with
      | zero => rfl
      | succ k ih => rw [sh, ih]; rfl
    show numS (k + 1) (x / 256) ++ b1 (x % 256) = b1 (sh x (k + 1) % 256) ++ (numS k (x / 256) ++ b1 (x % 256))
    rw [numS_front k (x / 256), ByteArray.append_assoc, e]
theorem ext_head2 (s z : ByteArray) : (s ++ z).extract 0 s.size = s := by
  apply ByteArray.ext
  simp [ByteArray.data_extract]
theorem ext_tail2 (s z : ByteArray) : (s ++ z).extract s.size (s ++ z).size = z := by
  apply ByteArray.ext
  simp [ByteArray.data_extract]
  rw [show s.data.extract s.size (s.size + z.size) = #[] from by apply Array.eq_empty_of_size_eq_zero; simp]
  show #[] ++ z.data.extract 0 z.data.size = z.data
  simp
theorem rdB_front (z rest : ByteArray) (n : Int) (h : n = (z.size : Int)) : rdB (z ++ rest) 0 n = (z, rest, 0) := by
  unfold rdB
  rw [if_neg (by omega), if_neg (by omega), if_neg (by rw [ByteArray.size_append]; omega), h, Int.toNat_natCast, ext_head2, ext_tail2]
attribute [local irreducible] ByteArray.extract
theorem numsS_one (k : Nat) (x : Int) : numsS k [x] = numS k x := append_E0 _
theorem brows_one {x : Int} (h : 0 ≤ x ∧ x ≤ 255) : [[Value.int .u8 x]] = brows (b1 x) := (b1_rows h).symm
end Go.Proofs.Ytlhlidmhlhodiaa

/-
  Package rtp: awake, Is, RtpIs.
-/
namespace Go.Proofs.Ytlhlidmhlhodiaa
set_option linter.unusedSimpArgs false
set_option linter.unusedVariables false
set_option linter.unusedSimpArgs false
set_option linter.unusedVariables false
open Go.RowKit
attribute [local irreducible] Pv WO WC Fn
set_option maxRecDepth 100000

abbrev rpR (mrk : Bool) (kd sq t ss : Int) (cs : Value) (ex : Bool) (pf : Int) (dt pl : ByteArray) (pd : Int) : List Value := [.bool mrk, .int .u8 kd, .int .u16 sq, .int .u32 t, .int .u32 ss, cs, .bool ex, .int .u16 pf, .string dt, .string pl, .int .i64 pd]
theorem kU8 (g : Nat) (s b s2 : ByteArray) (x e2 : Int) (hs : s.size ≤ 1000000) (hq : rdB s 0 1 = (b, s2, e2)) (hx : valK b b.size = x) : Fn Try.prog 63 #[.pointer (some ⟨g, 0, none⟩)] [rdO g s 0] [] (fun v L' R' => v = .int .u8 x ∧ L' = [rdO g s2 e2] ∧ R' = []) := by
  subst hx; exact octU8 g s b s2 0 e2 (by omega) hq
theorem kU16 (g : Nat) (s b s2 : ByteArray) (x e2 : Int) (hs : s.size ≤ 1000000) (hq : rdB s 0 2 = (b, s2, e2)) (hx : valK b b.size = x) : Fn Try.prog 65 #[.pointer (some ⟨g, 0, none⟩)] [rdO g s 0] [] (fun v L' R' => v = .int .u16 x ∧ L' = [rdO g s2 e2] ∧ R' = []) := by
  subst hx; exact octU16 g s b s2 0 e2 (by omega) hq
theorem kU32 (g : Nat) (s b s2 : ByteArray) (x e2 : Int) (hs : s.size ≤ 1000000) (hq : rdB s 0 4 = (b, s2, e2)) (hx : valK b b.size = x) : Fn Try.prog 66 #[.pointer (some ⟨g, 0, none⟩)] [rdO g s 0] [] (fun v L' R' => v = .int .u32 x ∧ L' = [rdO g s2 e2] ∧ R' = []) := by
  subst hx; exact octU32 g s b s2 0 e2 (by omega) hq
theorem kRest (g : Nat) (s b s2 : ByteArray) (e2 : Int) (hs : s.size ≤ 1000000) (hq : rdB s 0 s.size = (b, s2, e2)) : Fn Try.prog 68 #[.pointer (some ⟨g, 0, none⟩)] [rdO g s 0] [] (fun v L' R' => v = .string b ∧ L' = [rdO g s2 e2] ∧ R' = []) := by
  have h := octRest g s 0 (by omega)
  rw [hq] at h; exact h
set_option maxHeartbeats 4000000 in
theorem aParse : Fn Try.prog 15 #[.string ⟨#[128, 96, 0, 1, 0, 0, 0, 2, 0, 0, 0, 3, 97]⟩] [] []
    (fun v L' R' => v = .tuple #[.agg (rpR false 96 1 2 3 (.slice none 0 0) false 0 ByteArray.empty ⟨#[97]⟩ 0).toArray, .int .i64 0] ∧ L' = [] ∧ R' = []) := by
  have c1 := fun g => kU8 g ⟨#[128, 96, 0, 1, 0, 0, 0, 2, 0, 0, 0, 3, 97]⟩ ⟨#[128]⟩ ⟨#[96, 0, 1, 0, 0, 0, 2, 0, 0, 0, 3, 97]⟩ 128 0 (by decide) (by decide) (by decide)
  have c2 := fun g => kU8 g ⟨#[96, 0, 1, 0, 0, 0, 2, 0, 0, 0, 3, 97]⟩ ⟨#[96]⟩ ⟨#[0, 1, 0, 0, 0, 2, 0, 0, 0, 3, 97]⟩ 96 0 (by decide) (by decide) (by decide)
  have c3 := fun g => octErr g ⟨#[0, 1, 0, 0, 0, 2, 0, 0, 0, 3, 97]⟩ 0
  have c4 := fun g => kU16 g ⟨#[0, 1, 0, 0, 0, 2, 0, 0, 0, 3, 97]⟩ ⟨#[0, 1]⟩ ⟨#[0, 0, 0, 2, 0, 0, 0, 3, 97]⟩ 1 0 (by decide) (by decide) (by decide)
  have c5 := fun g => kU32 g ⟨#[0, 0, 0, 2, 0, 0, 0, 3, 97]⟩ ⟨#[0, 0, 0, 2]⟩ ⟨#[0, 0, 0, 3, 97]⟩ 2 0 (by decide) (by decide) (by decide)
  have c6 := fun g => kU32 g ⟨#[0, 0, 0, 3, 97]⟩ ⟨#[0, 0, 0, 3]⟩ ⟨#[97]⟩ 3 0 (by decide) (by decide) (by decide)
  have c7 := fun g => kRest g ⟨#[97]⟩ ⟨#[97]⟩ E0 0 (by decide) (by decide)
  have c8 := fun g => octErr g E0 0
  have z0 : (⟨#[128, 96, 0, 1, 0, 0, 0, 2, 0, 0, 0, 3, 97]⟩ : ByteArray).size = 13 := rfl
  generalize (⟨#[128, 96, 0, 1, 0, 0, 0, 2, 0, 0, 0, 3, 97]⟩ : ByteArray) = s0 at c1 z0 ⊢
  generalize (⟨#[96, 0, 1, 0, 0, 0, 2, 0, 0, 0, 3, 97]⟩ : ByteArray) = s1 at c1 c2
  generalize (⟨#[0, 1, 0, 0, 0, 2, 0, 0, 0, 3, 97]⟩ : ByteArray) = s2 at c2 c3 c4
  generalize (⟨#[0, 0, 0, 2, 0, 0, 0, 3, 97]⟩ : ByteArray) = s3 at c4 c5
  generalize (⟨#[0, 0, 0, 3, 97]⟩ : ByteArray) = s4 at c5 c6
  generalize (⟨#[97]⟩ : ByteArray) = s5 at c6 c7 ⊢
  refine fn_intro Try.func15 rfl Try.ntmps15 rfl (fun E => ?_)
  (repeat (first | ((first | (apply wo_v; rfl) ); (· first | (apply pv_ev; rfl) | (apply g_bi; first | (apply pv_len_str; rfl) ) )) | apply wo_nil | apply wc_seq | apply wc_region | apply wc_skip | (apply wc_true; rfl) | (apply wc_false; rfl) | (apply a_dec_t; rfl; (· first | assumption | omega)) | (apply a_dec_f; rfl; (· first | assumption | omega)) | (apply wo_alloc; rfl; intro bx) ))
  (refine wo_call (octRead s0) rfl (by (repeat (first | apply sub_nil )); done) (by first | exact fun _ h => h | (intro r hr; cases hr; done) | (simp; done) | exact fun _ h => List.mem_append_left _ h | (intro r hr; simp [hr]; done)) rfl ?_; rintro v L' R' ⟨g, rfl, rfl, rfl⟩ H' hH RR hR; simp only [List.cons_append, List.nil_append] at hH hR; subst hH; have hR := hR.symm; subst hR)
  (repeat (first | ((first | (apply wo_v; rfl) ); (· first | (apply pv_ev; rfl) )) | apply wo_nil | apply wc_seq | apply wc_region ))
  (refine wo_call (c1 g) rfl (by (repeat (first | apply sub_nil )); done) (by first | exact fun _ h => h | (intro r hr; cases hr; done) | (simp; done) | exact fun _ h => List.mem_append_left _ h | (intro r hr; simp [hr]; done)) rfl ?_; rintro v L' R' ⟨rfl, rfl, rfl⟩ H' hH RR hR; simp only [List.cons_append, List.nil_append] at hH hR; subst hH; have hR := hR.symm; subst hR)
  (repeat (first | ((first | (apply wo_v; rfl) ); (· first | (apply pv_ev; rfl) )) ))
  (refine wo_call (c2 g) rfl (by (repeat (first | apply sub_nil )); done) (by first | exact fun _ h => h | (intro r hr; cases hr; done) | (simp; done) | exact fun _ h => List.mem_append_left _ h | (intro r hr; simp [hr]; done)) rfl ?_; rintro v L' R' ⟨rfl, rfl, rfl⟩ H' hH RR hR; simp only [List.cons_append, List.nil_append] at hH hR; subst hH; have hR := hR.symm; subst hR)
  (repeat (first | ((first | (apply wo_v; rfl) ); (· first | (apply pv_ev; rfl) )) | apply wo_nil | apply wc_seq | apply wc_region ))
  (refine wo_call (c3 g) rfl (by (repeat (first | apply sub_nil )); done) (by first | exact fun _ h => h | (intro r hr; cases hr; done) | (simp; done) | exact fun _ h => List.mem_append_left _ h | (intro r hr; simp [hr]; done)) rfl ?_; rintro v L' R' ⟨rfl, rfl, rfl⟩ H' hH RR hR; simp only [List.cons_append, List.nil_append] at hH hR; subst hH; have hR := hR.symm; subst hR)
  (repeat (first | ((first | (apply wo_v; rfl) ); (· first | (apply pv_ev; rfl) | (apply g_pick; first | (apply pv_pick_t; rfl; rfl) ) | (apply g_bin; first | (apply pv_and; rfl; rfl) | (apply a_shr; rfl; rfl; rfl; omega; rfl) ) )) | apply wo_nil | apply wc_seq | apply wc_region | apply wc_skip | (apply wc_true; rfl) | (apply wc_false; rfl) | (apply wo_run; rfl; rfl) ))
  rw [show bits .and .u8 96 127 = 96 by decide, show decide ((127 : Int) < 96) = false by decide]
  (refine wo_call (c4 g) rfl (by (repeat (first | apply sub_nil )); done) (by first | exact fun _ h => h | (intro r hr; cases hr; done) | (simp; done) | exact fun _ h => List.mem_append_left _ h | (intro r hr; simp [hr]; done)) rfl ?_; rintro v L' R' ⟨rfl, rfl, rfl⟩ H' hH RR hR; simp only [List.cons_append, List.nil_append] at hH hR; subst hH; have hR := hR.symm; subst hR)
  (repeat (first | ((first | (apply wo_v; rfl) ); (· first | (apply pv_ev; rfl) )) ))
  (refine wo_call (c5 g) rfl (by (repeat (first | apply sub_nil )); done) (by first | exact fun _ h => h | (intro r hr; cases hr; done) | (simp; done) | exact fun _ h => List.mem_append_left _ h | (intro r hr; simp [hr]; done)) rfl ?_; rintro v L' R' ⟨rfl, rfl, rfl⟩ H' hH RR hR; simp only [List.cons_append, List.nil_append] at hH hR; subst hH; have hR := hR.symm; subst hR)
  (repeat (first | ((first | (apply wo_v; rfl) ); (· first | (apply pv_ev; rfl) )) ))
  (refine wo_call (c6 g) rfl (by (repeat (first | apply sub_nil )); done) (by first | exact fun _ h => h | (intro r hr; cases hr; done) | (simp; done) | exact fun _ h => List.mem_append_left _ h | (intro r hr; simp [hr]; done)) rfl ?_; rintro v L' R' ⟨rfl, rfl, rfl⟩ H' hH RR hR; simp only [List.cons_append, List.nil_append] at hH hR; subst hH; have hR := hR.symm; subst hR)
  (repeat (first | ((first | (apply wo_v; rfl) ); (· first | (apply pv_ev; rfl) | (apply g_bin; first | (apply pv_and; rfl; rfl) ) | (apply g_build; apply pv_build; (· (repeat (first | apply Bld.nil | (apply Bld.one; rfl; rfl; (· (repeat (first | apply SetAt.here | apply SetAt.there)))) )))) )) | apply wo_nil | apply wc_seq | apply wc_region | (apply wo_alloc; rfl; intro bx) | (apply wo_sta; rfl; rfl; rfl; rfl; (· (repeat (first | apply sel_here ))); (· (repeat (first | apply LayAt.nil | apply LayAt.here ))); rfl) ))
  rw [show bits .and .u8 128 16 = 0 by decide, show decide ((0 : Int) < 0) = false by decide, show bits .and .u8 128 15 = 0 by decide]
  refine wc_join0 (fun st => ∃ bp bq, st = ⟨[(2, .pointer (some ⟨bq, 0, none⟩)), (4, .pointer (some ⟨g, 0, none⟩)), (5, .int .u8 128), (7, .pointer (some ⟨bp, 0, none⟩))], [rdO g s5 0, .ob bp (.cells (rpR false 96 1 2 3 (.slice none 0 0) false 0 ByteArray.empty ByteArray.empty 0).toArray 33 (0, 0)), .ob bq (.cells (rpR false 0 0 0 0 (.slice none 0 0) false 0 ByteArray.empty ByteArray.empty 0).toArray 33 (0, 0))], []⟩) ?_ ?_
  · rename_i bq _ _ _ _ _ _
    refine wc_block ?_
    refine wc_loop' (fun q st => q = 1 ∧ st = ⟨[(2, .pointer (some ⟨bq, 0, none⟩)), (4, .pointer (some ⟨g, 0, none⟩)), (5, .int .u8 128), (7, .pointer (some ⟨bx, 0, none⟩)), (45, .int .u8 0), (46, .int .u8 0)], [rdO g s5 0, .ob bx (.cells (rpR false 96 1 2 3 (.slice none 0 0) false 0 ByteArray.empty ByteArray.empty 0).toArray 33 (0, 0)), .ob bq (.cells (rpR false 0 0 0 0 (.slice none 0 0) false 0 ByteArray.empty ByteArray.empty 0).toArray 33 (0, 0))], []⟩) ⟨rfl, rfl⟩ (wk_mk (by (repeat (first | apply wkf_nil | (apply wkf_cons; rfl))); done) (by (repeat (first | apply sub_nil | (apply sub_cons; (· (repeat (first | apply sel_here | apply sel_there)))))); done) (by first | exact fun _ h => h | (intro r hr; cases hr; done) | (simp; done) | exact fun _ h => List.mem_append_left _ h | (intro r hr; simp [hr]; done))) ?_
    rintro q st ⟨rfl, rfl⟩
    (repeat (first | ((first | (apply wo_v; rfl) ); (· first | (apply pv_ev; rfl) )) | apply wo_nil | apply wc_seq | apply wc_region | (apply wc_exit; rfl) | (apply wc_true; rfl) | (apply wc_false; rfl) ))
    exact cut_end ⟨bx, bq, rfl⟩ (wk_mk (by (repeat (first | apply wkf_nil | (apply wkf_cons; rfl))); done) (by (repeat (first | apply sub_nil )); done) (by first | exact fun _ h => h | (intro r hr; cases hr; done) | (simp; done) | exact fun _ h => List.mem_append_left _ h | (intro r hr; simp [hr]; done)))
  rintro st ⟨bp, bq, rfl⟩
  (repeat (first | ((first | (apply wo_v; rfl) ); (· first | (apply pv_ev; rfl) | (apply pv_fld; rfl) | (apply g_load; first | (apply pv_ld; rfl; (· (repeat (first | apply sel_here | apply sel_there))); rfl) ) )) | apply wo_nil | apply wc_seq | apply wc_region | apply wc_skip | (apply wc_true; rfl) | (apply wc_false; rfl) ))
  (refine wo_call (c7 g) rfl (by (repeat (first | apply sub_nil )); done) (by first | exact fun _ h => h | (intro r hr; cases hr; done) | (simp; done) | exact fun _ h => List.mem_append_left _ h | (intro r hr; simp [hr]; done)) rfl ?_; rintro v L' R' ⟨rfl, rfl, rfl⟩ H' hH RR hR; simp only [List.cons_append, List.nil_append] at hH hR; subst hH; have hR := hR.symm; subst hR)
  (repeat (first | ((first | (apply wo_v; rfl) ); (· first | (apply pv_ev; rfl) | (apply pv_fld; rfl) )) | apply wo_nil | apply wc_seq | apply wc_region | (apply wo_st; rfl; rfl; rfl; (· (repeat (first | apply sel_here | apply sel_there))); (· (repeat (first | apply SetAt.here | apply SetAt.there))); rfl) ))
  (refine wo_call (c8 g) rfl (by (repeat (first | apply sub_nil | (apply sub_cons; (· (repeat (first | apply sel_here | apply sel_there)))))); done) (by first | exact fun _ h => h | (intro r hr; cases hr; done) | (simp; done) | exact fun _ h => List.mem_append_left _ h | (intro r hr; simp [hr]; done)) rfl ?_; rintro v L' R' ⟨rfl, rfl, rfl⟩ H' hH RR hR; simp only [List.cons_append, List.nil_append] at hH hR; subst hH; have hR := hR.symm; subst hR)
  (repeat (first | ((first | (apply wo_v; rfl) ); (· first | (apply pv_ev; rfl) | (apply g_pick; first | (apply pv_pick_t; rfl; rfl) ) | (apply g_bin; first | (apply pv_and; rfl; rfl) ) )) | apply wo_nil | apply wc_seq | apply wc_region | apply wc_skip | (apply wc_true; rfl) | (apply wc_false; rfl) | (apply wo_run; rfl; rfl) ))
  (refine wo_call (c8 g) rfl (by (repeat (first | apply sub_nil )); done) (by first | exact fun _ h => h | (intro r hr; cases hr; done) | (simp; done) | exact fun _ h => List.mem_append_left _ h | (intro r hr; simp [hr]; done)) rfl ?_; rintro v L' R' ⟨rfl, rfl, rfl⟩ H' hH RR hR; simp only [List.cons_append, List.nil_append] at hH hR; subst hH; have hR := hR.symm; subst hR)
  (repeat (first | ((first | (apply wo_v; rfl) ); (· first | (apply pv_ev; rfl) | (apply g_load; first | (apply pv_lda; rfl; (· (repeat (first | apply sel_here | apply sel_there))); (· (repeat (first | apply Cut.here0 | apply Cut.here )))) ) )) | apply wo_nil | apply wc_seq | apply wc_region | apply wc_skip | apply wc_ret | (apply wc_true; rfl) | (apply wc_false; rfl) | (apply wo_sta; rfl; rfl; rfl; rfl; (· (repeat (first | apply sel_here | apply sel_there))); (· (repeat (first | apply LayAt.nil | apply LayAt.here ))); rfl) ))
  exact retv rfl (by (repeat (first | apply RV.nil | (apply RV.tmp; rfl) | (apply RV.agg; rfl; (· (repeat (first | apply sel_here ))); infer_instance; (· (repeat (first | apply Cut.here0 | apply Cut.here )))) )); done) (⟨rfl, rfl, rfl⟩) (by (repeat (first | apply sub_nil )); done) (by first | exact fun _ h => h | (intro r hr; cases hr; done) | (simp; done) | exact fun _ h => List.mem_append_left _ h | (intro r hr; simp [hr]; done))
theorem rIs (s : ByteArray) (r : Bool) (h2 : 2 ≤ s.size) (h : r = (decide (sb s 0 / 64 = 2) && (decide (sb s 1 < 192) || decide (223 < sb s 1)))) : Fn Try.prog 35 #[.string s] [] [] (fun v L' R' => v = .bool r ∧ L' = [] ∧ R' = []) := by
  by_cases c1 : sb s 0 / 64 = 2 <;> by_cases c2 : sb s 1 < 192 <;> by_cases c3 : 223 < sb s 1
  all_goals
    refine fn_intro Try.func35 rfl Try.ntmps35 rfl (fun E => ?_)
    (repeat (first | ((first | (apply wo_v; rfl) ); (· first | (apply pv_ev; rfl) | (apply g_pick; first | (apply pv_pick_t; rfl; rfl) | (apply pv_pick_f; rfl; rfl)) | (apply g_bin; first | (apply a_shr; rfl; rfl; rfl; omega; rfl) ) | (apply g_bi; first | (apply pv_len_str; rfl) ) | (apply pv_index_sn; rfl; rfl; omega) | (apply pv_index_s; rfl; rfl; omega))) | apply wo_nil | apply wc_seq | apply wc_region | apply wc_ret | (apply wo_run; rfl; rfl) | (apply wo_skip; rfl; rfl; rfl; rfl) | (apply wo_skip_u; rfl; rfl; rfl) | (apply a_gt; rfl; rfl; (· first | assumption | omega)) | (apply a_gf; rfl; rfl; (· first | assumption | omega)) ))
    exact ret1 rfl rfl ⟨by rw [h]; first | (simp [c1, c2, c3]; done) | (exfalso; omega), rfl, rfl⟩ ((by (repeat (first | apply sub_nil )); done) : List.Perm _ ([] ++ _)) (by first | exact fun _ h => h | (intro r hr; cases hr; done) | (simp; done) | exact fun _ h => List.mem_append_left _ h | (intro r hr; simp [hr]; done))
theorem rIsNo (s : ByteArray) (h2 : s.size < 2) : Fn Try.prog 35 #[.string s] [] [] (fun v L' R' => v = .bool false ∧ L' = [] ∧ R' = []) := by
  refine fn_intro Try.func35 rfl Try.ntmps35 rfl (fun E => ?_)
  (repeat (first | ((first | (apply wo_v; rfl) ); (· first | (apply pv_ev; rfl) | (apply g_pick; first | (apply pv_pick_t; rfl; rfl) | (apply pv_pick_f; rfl; rfl)) | (apply g_bi; first | (apply pv_len_str; rfl) ) )) | apply wo_nil | apply wc_seq | apply wc_region | apply wc_ret | (apply wo_run; rfl; rfl) | (apply wo_skip; rfl; rfl; rfl; rfl) | (apply wo_skip_u; rfl; rfl; rfl) | (apply a_gt; rfl; rfl; (· first | assumption | omega)) | (apply a_gf; rfl; rfl; (· first | assumption | omega)) ))
  exact ret1 rfl rfl ⟨by simp, rfl, rfl⟩ ((by (repeat (first | apply sub_nil )); done) : List.Perm _ ([] ++ _)) (by first | exact fun _ h => h | (intro r hr; cases hr; done) | (simp; done) | exact fun _ h => List.mem_append_left _ h | (intro r hr; simp [hr]; done))
theorem outc_pv {P : Program} {N : Nat} {E : Env} {fr : List (Nat × Value)} {L B0 : List It} {ro : List Ro} {op : Op} {v : Value} {dst : Option Tmp} {ty : TypeId} {pos : String} {af : Array Edge} {g : Option (Nat × Bool)} (h : Pv P ⟨fr, L, ro⟩ op v) :
    ∀ a, Holds N fr a → Outc P E B0 ro ⟨dst, op, ty, pos, af, g⟩ a L (fun v' M => v' = v ∧ M = L) := fun a hh F w hw => by
  unfold Pv at h
  rw [h N E a w dst ty pos af g ⟨hh, hw.left⟩]
  exact ⟨L, ⟨rfl, rfl⟩, hw⟩
abbrev byO2 (b : Nat) (x y : Int) : It := .own 5 1 (some ⟨b, 0, none⟩) 2 2 [[.int .u8 x], [.int .u8 y]]
def tblI (x y : Int) (s : ByteArray) : Nat → List (List It) → Value → List (List It) → Prop := fun k Ls v Ms => match k, Ls with
  | 2, _ => ∃ b, v = .slice (some ⟨b, 0, none⟩) 2 2 ∧ Ms = [[.own 5 1 (some ⟨b, 0, none⟩) 2 2 [[.int .u8 x], [.int .u8 y]]]]
  | 3, [l] => v = .string (bytesOf [x, y]) ∧ Ms = [l]
  | _, _ => v = .string s ∧ Ms = [[]]
end Go.Proofs.Ytlhlidmhlhodiaa

/-
  Package reorder: things in their order.
-/
namespace Go.Proofs.Ytlhlidmhlhodiaa
set_option linter.unusedSimpArgs false
set_option linter.unusedVariables false
open Go.RowKit
instance : TZV Try.prog 218 (.agg #[.int .i64 0, .string ByteArray.empty, .int .i64 0]) := ⟨by kernel_rfl⟩
attribute [local irreducible] Pv WO WC Fn
set_option maxRecDepth 100000

abbrev bfI (b : Nat) (bg : Bool) (nx : Int) (mp : Nat) (lo : Int) : It := .ob b (.cells #[.int .i64 4, .int .i64 3, .bool bg, .int .i64 nx, .map (some mp), .int .i64 lo] 281 (0, 0))
abbrev thV (at_ : Int) (tx : ByteArray) (tk : Int) : Value := .agg #[.int .i64 at_, .string tx, .int .i64 tk]
abbrev thB (b : Nat) (at_ : Int) (tx : ByteArray) (tk : Int) : It := .ob b (.cells #[.int .i64 at_, .string tx, .int .i64 tk] 218 (0, 0))
abbrev thO (ao : Option Addr) (n c : Nat) (xs : List (List Value)) : It := .own 218 3 ao n c xs
def tblLk (zv : Value) (row : List Value) : Nat → List (List It) → Value → List (List It) → Prop := fun k Ls v Ms => match k, Ls with
  | 6, L => v = zv ∧ Ms = L
  | 10, _ => ∃ b, v = .pointer (some ⟨b, 0, none⟩) ∧ Ms = [[thB b 0 ByteArray.empty 0]]
  | 11, [[.ob b _]] => v = undef ∧ Ms = [[.ob b (.cells row.toArray 218 (0, 0))]]
  | _, _ => False
end Go.Proofs.Ytlhlidmhlhodiaa

/-
  Layer 4, plain: descriptors, how they are read of bytes, their bytes. No program in sight.
-/
namespace Go.Proofs.Ytlhlidmhlhodiaa
set_option linter.unusedSimpArgs false
set_option linter.unusedVariables false
open Go.RowKit
attribute [local irreducible] ByteArray.extract

/-! bits of bytes -/
theorem u8_all {p : Int → Prop} (h : ∀ n : Fin 256, p ((n.val : Nat) : Int)) {a : Int} (ha : 0 ≤ a ∧ a ≤ 255) : p a := by
  have := h ⟨a.toNat, by omega⟩
  rwa [show (((⟨a.toNat, by omega⟩ : Fin 256).val : Nat) : Int) = a by simp; omega] at this
theorem and8_32 {a : Int} : 0 ≤ a ∧ a ≤ 255 → bits .and .u8 a 32 = a / 32 % 2 * 32 := u8_all (p := fun a => bits .and .u8 a 32 = a / 32 % 2 * 32) (by decide +kernel)
theorem and8_16 {a : Int} : 0 ≤ a ∧ a ≤ 255 → bits .and .u8 a 16 = a / 16 % 2 * 16 := u8_all (p := fun a => bits .and .u8 a 16 = a / 16 % 2 * 16) (by decide +kernel)
theorem and8_7 {a : Int} : 0 ≤ a ∧ a ≤ 255 → bits .and .u8 a 7 = a % 8 := u8_all (p := fun a => bits .and .u8 a 7 = a % 8) (by decide +kernel)
theorem and8_128 {a : Int} : 0 ≤ a ∧ a ≤ 255 → bits .and .u8 a 128 = a / 128 % 2 * 128 := u8_all (p := fun a => bits .and .u8 a 128 = a / 128 % 2 * 128) (by decide +kernel)
theorem and8_64 {a : Int} : 0 ≤ a ∧ a ≤ 255 → bits .and .u8 a 64 = a / 64 % 2 * 64 := u8_all (p := fun a => bits .and .u8 a 64 = a / 64 % 2 * 64) (by decide +kernel)
theorem and8_48 {a : Int} : 0 ≤ a ∧ a ≤ 255 → bits .and .u8 a 48 = a / 16 % 4 * 16 := u8_all (p := fun a => bits .and .u8 a 48 = a / 16 % 4 * 16) (by decide +kernel)
theorem and8_31 {a : Int} : 0 ≤ a ∧ a ≤ 255 → bits .and .u8 a 31 = a % 32 := u8_all (p := fun a => bits .and .u8 a 31 = a % 32) (by decide +kernel)
theorem and8_1 {a : Int} : 0 ≤ a ∧ a ≤ 255 → bits .and .u8 a 1 = a % 2 := u8_all (p := fun a => bits .and .u8 a 1 = a % 2) (by decide +kernel)

/-! one byte read -/
abbrev Rs := ByteArray × Int
def t1 (r : Rs) : Int × Rs := (valK (rdB r.1 r.2 1).1 (rdB r.1 r.2 1).1.size, (rdB r.1 r.2 1).2)
theorem t1_b (r : Rs) : 0 ≤ (t1 r).1 ∧ (t1 r).1 ≤ 255 := by
  have h : (rdB r.1 r.2 1).1.size ≤ 1 := by have := rdB_size r.1 r.2 1 (by omega); omega
  have h1 := valK_b (rdB r.1 r.2 1).1
  show 0 ≤ valK _ _ ∧ valK _ _ ≤ 255
  have h2 : (rdB r.1 r.2 1).1.size = 0 ∨ (rdB r.1 r.2 1).1.size = 1 := by omega
  rcases h2 with h2 | h2
  · rw [h2]; simp [valK]
  · rw [h2]; exact ⟨h1.1 1, h1.2.1⟩
theorem t1_size (r : Rs) : (t1 r).2.1.size ≤ r.1.size := rdB_size2 r.1 r.2 1
theorem t1_front {x : Int} (h : 0 ≤ x ∧ x ≤ 255) (z : ByteArray) : t1 (b1 x ++ z, 0) = (x, z, 0) := by
  unfold t1
  rw [rdB_front (b1 x) z 1 rfl]
  show (valK (b1 x) 1, z, 0) = _
  rw [val_b1 h]
theorem t1_err {r : Rs} (h : r.2 ≠ 0) : (t1 r).2 = r := by
  obtain ⟨s, e⟩ := r
  show (rdB s e 1).2 = (s, e)
  unfold rdB
  rw [if_pos h]
theorem t1_end : t1 (E0, 0) = (0, E0, 1) := by decide
/-- a byte that is read stands in front -/
theorem t1_ok {r : Rs} (h : (t1 r).2.2 = 0) : r.2 = 0 ∧ r.1 = b1 (t1 r).1 ++ (t1 r).2.1 := by
  obtain ⟨s, e⟩ := r
  have h0 : e = 0 := by
    by_cases h0 : e = 0
    · exact h0
    · rw [t1_err h0] at h; exact absurd h h0
  subst h0
  refine ⟨rfl, ?_⟩
  have hz : ¬ ((s.size : Int) < 1) := fun hz => by
    have : (t1 (s, 0)).2.2 = 1 := by
      show (rdB s 0 1).2.2 = 1
      unfold rdB
      rw [if_neg (by simp), if_neg (by simp), if_pos hz]
    rw [this] at h; cases h
  obtain ⟨x, z, rfl, hx⟩ : ∃ x z, s = b1 x ++ z ∧ 0 ≤ x ∧ x ≤ 255 := by
    obtain ⟨⟨l⟩⟩ := s
    cases l with
    | nil => exact absurd (by show ((0 : Nat) : Int) < 1; decide) hz
    | cons u l =>
      refine ⟨(u.toNat : Int), ⟨l.toArray⟩, ?_, by have := u.toNat_lt; omega⟩
      have : b1 (u.toNat : Int) = ⟨#[u]⟩ := by simp [b1]
      rw [this]
      apply ByteArray.ext
      simp
  rw [t1_front hx]
theorem t1_more {s z : ByteArray} {x : Int} {s' : ByteArray} (h : t1 (s, 0) = (x, s', 0)) : t1 (s ++ z, 0) = (x, s' ++ z, 0) := by
  have hb := t1_b (s, 0)
  obtain ⟨_, h2⟩ := t1_ok (r := (s, 0)) (by rw [h])
  rw [h] at h2 hb
  simp only at h2 hb
  rw [h2, ByteArray.append_assoc, t1_front hb]
theorem t1_e (r : Rs) (h : r.2 = 0) : (t1 r).2.2 = 0 ∨ (t1 r).2.2 = 1 := by
  obtain ⟨s, e⟩ := r
  simp only at h; subst h
  show (rdB s 0 1).2.2 = 0 ∨ (rdB s 0 1).2.2 = 1
  unfold rdB
  rw [if_neg (by simp), if_neg (by simp)]
  split <;> simp
end Go.Proofs.Ytlhlidmhlhodiaa

/-
  Layer 4, plain: descriptors.
-/
namespace Go.Proofs.Ytlhlidmhlhodiaa
set_option linter.unusedSimpArgs false
set_option linter.unusedVariables false
open Go.RowKit
attribute [local irreducible] ByteArray.extract

structure Dc where
  nr : Bool
  st : Bool
  pt : Int
  pic : Int
  wd : Bool
  lv : Int
  ly : Int
  sy : Bool
  ky : Int
  deriving DecidableEq
def Dc0 : Dc := ⟨false, false, 0, 0, false, 0, 0, false, 0⟩
def sFl (a : Int) (r : Rs) : Int × Rs := if 127 < a then t1 r else (0, r)
def sPic (f : Int) (r : Rs) : Int × Bool × Rs :=
  if f / 128 % 2 = 1 then (if 127 < (t1 r).1 then ((t1 r).1 % 128 * 256 + (t1 (t1 r).2).1, true, (t1 (t1 r).2).2) else ((t1 r).1, false, (t1 r).2)) else (-1, false, r)
def sLv (f : Int) (r : Rs) : Int × Rs := if f / 64 % 2 = 1 then t1 r else (-1, r)
def sLast (f : Int) (r : Rs) : Int × Bool × Int × Rs :=
  if 0 < f / 16 % 4 then (if f / 32 % 2 = 1 then (t1 r).1 / 64 else -1, decide (f / 32 % 2 = 1) && decide ((t1 r).1 / 32 % 2 = 1), if f / 16 % 2 = 1 then (t1 r).1 % 32 else -1, (t1 r).2) else (-1, false, -1, r)
def mkD (a : Int) (p : Int × Bool × Rs) (l : Int × Rs) (q : Int × Bool × Int × Rs) : Dc × ByteArray × Int :=
  if q.2.2.2.2 ≠ 0 then (Dc0, E0, q.2.2.2.2) else (⟨decide (a / 32 % 2 = 1), decide (a / 16 % 2 = 1), a % 8, p.1, p.2.1, l.1, q.1, q.2.1, q.2.2.1⟩, q.2.2.2.1, 0)
def prs (s : ByteArray) : Dc × ByteArray × Int :=
  let a := t1 (s, 0)
  let f := sFl a.1 a.2
  let p := sPic f.1 f.2
  let l := sLv f.1 p.2.2
  mkD a.1 p l (sLast f.1 l.2)
/-- which descriptors are valid -/
def okA (d : Dc) : Prop := 0 ≤ d.pt ∧ d.pt ≤ 7 ∧ -1 ≤ d.pic ∧ d.pic ≤ 32767 ∧ -1 ≤ d.lv ∧ d.lv ≤ 255 ∧ -1 ≤ d.ly ∧ d.ly ≤ 3 ∧ -1 ≤ d.ky ∧ d.ky ≤ 31
def okF (d : Dc) : Prop := ¬ (d.pic < 0 ∧ d.wd = true) ∧ ¬ (127 < d.pic ∧ d.wd = false) ∧ ¬ (d.ly < 0 ∧ d.sy = true)
instance (d : Dc) : Decidable (okA d) := inferInstanceAs (Decidable (_ ∧ _))
instance (d : Dc) : Decidable (okF d) := inferInstanceAs (Decidable (_ ∧ _))
def chk (d : Dc) : Int := if ¬ okA d then 5 else if ¬ okF d then 2 else 0
def bt (c : Bool) (n : Int) : Int := if c = true then n else 0
def fls (d : Dc) : Int := bt (decide (0 ≤ d.pic)) 128 + bt (decide (0 ≤ d.lv)) 64 + bt (decide (0 ≤ d.ly)) 32 + bt (decide (0 ≤ d.ky)) 16
def moreB (d : Dc) : Bool := decide (0 ≤ d.pic) || decide (0 ≤ d.lv) || decide (0 ≤ d.ly) || decide (0 ≤ d.ky)
def tPic (d : Dc) : ByteArray := if 0 ≤ d.pic then (if d.wd = true then numS 2 (d.pic + 32768) else b1 (d.pic % 128)) else E0
def tLv (d : Dc) : ByteArray := if 0 ≤ d.lv then b1 d.lv else E0
def tLast (d : Dc) : ByteArray := if 0 ≤ d.ly ∨ 0 ≤ d.ky then b1 (max d.ly 0 * 64 + bt d.sy 32 + max d.ky 0) else E0
def txt (d : Dc) : ByteArray := b1 (bt (moreB d) 128 + bt d.nr 32 + bt d.st 16 + d.pt) ++ (if moreB d = true then b1 (fls d) ++ (tPic d ++ (tLv d ++ tLast d)) else E0)
theorem bt_or (c : Bool) (n : Int) : bt c n = 0 ∨ bt c n = n := by cases c <;> simp [bt]
theorem bt_t (n : Int) : bt true n = n := rfl
theorem bt_f (n : Int) : bt false n = 0 := rfl
theorem fls_b (d : Dc) : 0 ≤ fls d ∧ fls d ≤ 240 := by
  unfold fls
  have h1 := bt_or (decide (0 ≤ d.pic)) 128
  have h2 := bt_or (decide (0 ≤ d.lv)) 64
  have h3 := bt_or (decide (0 ≤ d.ly)) 32
  have h4 := bt_or (decide (0 ≤ d.ky)) 16
  omega
theorem fls_more (d : Dc) : moreB d = decide (fls d ≠ 0) := by
  unfold moreB fls
  by_cases h1 : 0 ≤ d.pic <;> by_cases h2 : 0 ≤ d.lv <;> by_cases h3 : 0 ≤ d.ly <;> by_cases h4 : 0 ≤ d.ky <;> simp [h1, h2, h3, h4, bt]
theorem fls_bits (d : Dc) : fls d / 128 % 2 = bt (decide (0 ≤ d.pic)) 1 ∧ fls d / 64 % 2 = bt (decide (0 ≤ d.lv)) 1 ∧ fls d / 32 % 2 = bt (decide (0 ≤ d.ly)) 1 ∧ fls d / 16 % 2 = bt (decide (0 ≤ d.ky)) 1 ∧ fls d / 16 % 4 = bt (decide (0 ≤ d.ly)) 2 + bt (decide (0 ≤ d.ky)) 1 := by
  unfold fls
  by_cases h1 : 0 ≤ d.pic <;> by_cases h2 : 0 ≤ d.lv <;> by_cases h3 : 0 ≤ d.ly <;> by_cases h4 : 0 ≤ d.ky <;> simp [h1, h2, h3, h4, bt]
theorem E0_app (z : ByteArray) : E0 ++ z = z := E0_append z
/-- each part is read back -/
theorem sPic_txt {d : Dc} (ha : okA d) (hf : okF d) (z : ByteArray) : sPic (fls d) (tPic d ++ z, 0) = (d.pic, d.wd, z, 0) := by
  obtain ⟨h1, h2, h3, h4, h5, h6, h7, h8, h9, h10⟩ := ha
  obtain ⟨g1, g2, g3⟩ := hf
  unfold sPic tPic
  rw [(fls_bits d).1]
  by_cases hp : 0 ≤ d.pic
  · rw [if_pos (by simp [hp, bt]), if_pos hp]
    by_cases hw : d.wd = true
    · rw [if_pos hw]
      have e : numS 2 (d.pic + 32768) = b1 (128 + d.pic / 256) ++ b1 (d.pic % 256) := by
        simp only [numS]
        rw [show (d.pic + 32768) / 256 % 256 = 128 + d.pic / 256 by omega, show (d.pic + 32768) % 256 = d.pic % 256 by omega, E0_append]
      rw [e, ByteArray.append_assoc, t1_front (by omega), if_pos (by simp only; omega)]
      simp only
      rw [t1_front (by omega), hw, show (128 + d.pic / 256) % 128 * 256 + d.pic % 256 = d.pic by omega]
    · have hw' : d.wd = false := by simpa using hw
      rw [if_neg hw]
      have hle : d.pic ≤ 127 := by
        rcases Int.lt_or_le 127 d.pic with h | h
        · exact absurd ⟨h, hw'⟩ g2
        · exact h
      rw [t1_front (by omega), if_neg (by simp only; omega), hw', show d.pic % 128 = d.pic by omega]
  · have hw : d.wd = false := by
      cases h : d.wd with
      | false => rfl
      | true => exact absurd ⟨by omega, h⟩ g1
    rw [if_neg (by simp [hp, bt]), if_neg hp, hw, E0_append, show d.pic = -1 by omega]
theorem sLv_txt {d : Dc} (ha : okA d) (z : ByteArray) : sLv (fls d) (tLv d ++ z, 0) = (d.lv, z, 0) := by
  obtain ⟨h1, h2, h3, h4, h5, h6, h7, h8, h9, h10⟩ := ha
  unfold sLv tLv
  rw [(fls_bits d).2.1]
  by_cases hp : 0 ≤ d.lv
  · rw [if_pos (by simp [hp, bt]), if_pos hp, t1_front (by omega)]
  · rw [if_neg (by simp [hp, bt]), if_neg hp, E0_append, show d.lv = -1 by omega]
theorem sLast_txt {d : Dc} (ha : okA d) (hf : okF d) (z : ByteArray) : sLast (fls d) (tLast d ++ z, 0) = (d.ly, d.sy, d.ky, z, 0) := by
  obtain ⟨h1, h2, h3, h4, h5, h6, h7, h8, h9, h10⟩ := ha
  obtain ⟨g1, g2, g3⟩ := hf
  obtain ⟨_, _, e3, e4, e5⟩ := fls_bits d
  unfold sLast tLast
  rw [e3, e4, e5]
  by_cases h : 0 ≤ d.ly ∨ 0 ≤ d.ky
  · have hb := bt_or d.sy 32
    rw [if_pos (by rcases h with h | h <;> (simp only [h, decide_true, bt_t]; have := bt_or (decide (0 ≤ d.ly)) 2; have := bt_or (decide (0 ≤ d.ky)) 1; omega)), if_pos h, t1_front (by omega)]
    simp only
    by_cases hl : 0 ≤ d.ly
    · have e1 : (max d.ly 0 * 64 + bt d.sy 32 + max d.ky 0) / 64 = d.ly := by omega
      have e2 : (max d.ly 0 * 64 + bt d.sy 32 + max d.ky 0) / 32 % 2 = bt d.sy 1 := by
        cases d.sy <;> simp only [bt_t, bt_f] <;> omega
      rw [e1, e2]
      have e6 : (if bt (decide (0 ≤ d.ky)) 1 = 1 then (max d.ly 0 * 64 + bt d.sy 32 + max d.ky 0) % 32 else -1) = d.ky := by
        by_cases hk : 0 ≤ d.ky
        · simp only [hk, decide_true, bt_t, if_true]; omega
        · simp only [hk, decide_false, bt_f]; rw [if_neg (by omega)]; omega
      rw [e6]
      simp only [hl, decide_true, bt_t, if_true, Bool.true_and]
      cases d.sy <;> simp [bt]
    · have hs : d.sy = false := by
        cases h' : d.sy with
        | false => rfl
        | true => exact absurd ⟨by omega, h'⟩ g3
      have hk : 0 ≤ d.ky := by omega
      simp only [hl, hk, hs, decide_true, decide_false, bt_t, bt_f, if_true, Bool.false_and]
      rw [if_neg (by omega), show max d.ly 0 * 64 + 0 + max d.ky 0 = d.ky by omega, show d.ky % 32 = d.ky by omega, show d.ly = -1 by omega]
      simp
  · have hl : ¬ 0 ≤ d.ly := fun h' => h (.inl h')
    have hk : ¬ 0 ≤ d.ky := fun h' => h (.inr h')
    have hs : d.sy = false := by
      cases h' : d.sy with
      | false => rfl
      | true => exact absurd ⟨by omega, h'⟩ g3
    rw [if_neg (by simp [hl, hk, bt]), if_neg h, E0_append, hs, show d.ly = -1 by omega, show d.ky = -1 by omega]
theorem first_b (d : Dc) (ha : okA d) : 0 ≤ bt (moreB d) 128 + bt d.nr 32 + bt d.st 16 + d.pt ∧ bt (moreB d) 128 + bt d.nr 32 + bt d.st 16 + d.pt ≤ 255 := by
  obtain ⟨h1, h2, _⟩ := ha
  have := bt_or (moreB d) 128; have := bt_or d.nr 32; have := bt_or d.st 16
  omega
/-- a valid descriptor's bytes are read back -/
theorem prs_txt {d : Dc} (ha : okA d) (hf : okF d) (z : ByteArray) : prs (txt d ++ z) = (d, z, 0) := by
  have hb := first_b d ha
  have h1 := ha.1
  have h2 := ha.2.1
  unfold prs txt
  rw [ByteArray.append_assoc, t1_front hb]
  obtain ⟨x, hx⟩ : ∃ x, bt (moreB d) 128 + bt d.nr 32 + bt d.st 16 + d.pt = x := ⟨_, rfl⟩
  have e1 : decide (x / 32 % 2 = 1) = d.nr := by
    have f1 : x / 32 % 2 = bt d.nr 1 := by
      subst hx
      have := bt_or (moreB d) 128; have := bt_or d.st 16; have := bt_or d.nr 1
      have h' : bt d.nr 32 = 32 * bt d.nr 1 := by cases d.nr <;> rfl
      omega
    rw [f1]; cases d.nr <;> rfl
  have e2 : decide (x / 16 % 2 = 1) = d.st := by
    have f1 : x / 16 % 2 = bt d.st 1 := by
      subst hx
      have := bt_or (moreB d) 128; have := bt_or d.nr 32; have := bt_or d.st 1
      have h' : bt d.st 16 = 16 * bt d.st 1 := by cases d.st <;> rfl
      omega
    rw [f1]; cases d.st <;> rfl
  have e3 : x % 8 = d.pt := by
    subst hx
    have := bt_or (moreB d) 128; have := bt_or d.nr 32; have := bt_or d.st 16
    omega
  have e4 : (127 < x) ↔ moreB d = true := by
    subst hx
    have := bt_or d.nr 32; have := bt_or d.st 16
    cases moreB d <;> simp only [bt_t, bt_f] <;> simp <;> omega
  rw [hx]
  simp only
  have hmain : ∀ r, sFl x ((if moreB d = true then b1 (fls d) ++ (tPic d ++ (tLv d ++ tLast d)) else E0) ++ z, 0) = r → r = (fls d, tPic d ++ (tLv d ++ (tLast d ++ z)), 0) := by
    intro r hr
    subst hr
    unfold sFl
    by_cases hm : moreB d = true
    · have := fls_b d
      rw [if_pos (e4.2 hm), if_pos hm, ByteArray.append_assoc, t1_front (by omega), ByteArray.append_assoc, ByteArray.append_assoc]
    · have hz : fls d = 0 := by
        have := fls_more d
        by_cases h0 : fls d = 0
        · exact h0
        · rw [this] at hm; simp [h0] at hm
      rw [if_neg (fun h => hm (e4.1 h)), if_neg hm, hz]
      have hb2 := fls_bits d
      rw [hz] at hb2
      obtain ⟨f1, f2, f3, f4, _⟩ := hb2
      have g1 : ¬ 0 ≤ d.pic := fun h => by simp [h, bt] at f1
      have g2 : ¬ 0 ≤ d.lv := fun h => by simp [h, bt] at f2
      have g3 : ¬ 0 ≤ d.ly := fun h => by simp [h, bt] at f3
      have g4 : ¬ 0 ≤ d.ky := fun h => by simp [h, bt] at f4
      unfold tPic tLv tLast
      rw [if_neg g1, if_neg g2, if_neg (by omega)]
      simp only [E0_append]
  rw [hmain _ rfl]
  simp only
  rw [sPic_txt ha hf]
  simp only
  rw [sLv_txt ha]
  simp only
  rw [sLast_txt ha hf]
  unfold mkD
  simp only
  rw [if_neg (by simp), e1, e2, e3]
end Go.Proofs.Ytlhlidmhlhodiaa

/-
  Layer 4, plain: what is read is valid; a beginning is none.
-/
namespace Go.Proofs.Ytlhlidmhlhodiaa
set_option linter.unusedSimpArgs false
set_option linter.unusedVariables false
open Go.RowKit
attribute [local irreducible] ByteArray.extract

theorem t1_back {r : Rs} (h : (t1 r).2.2 = 0) : r.2 = 0 ∧ (t1 r).2.1.size + 1 = r.1.size := by
  obtain ⟨h1, h2⟩ := t1_ok h
  refine ⟨h1, ?_⟩
  have := congrArg ByteArray.size h2
  rw [ByteArray.size_append, b1_size] at this
  omega
theorem t1_ext {s z : ByteArray} (h : (t1 (s, 0)).2.2 = 0) : t1 (s ++ z, 0) = ((t1 (s, 0)).1, (t1 (s, 0)).2.1 ++ z, 0) := t1_more (Prod.ext rfl (Prod.ext rfl h))
theorem t1_01 {r : Rs} (h : r.2 = 0 ∨ r.2 = 1) : (t1 r).2.2 = 0 ∨ (t1 r).2.2 = 1 := by
  rcases h with h | h
  · exact t1_e r h
  · right; rw [t1_err (by omega)]; exact h
theorem rs_eta {r : Rs} (h : r.2 = 0) : (r.1, (0 : Int)) = r := by rw [← h]
def bx1 (c : Prop) [Decidable c] : Nat := if c then 1 else 0
/-! the flags' byte -/
theorem sFl_b (a : Int) (r : Rs) : 0 ≤ (sFl a r).1 ∧ (sFl a r).1 ≤ 255 := by
  unfold sFl; split
  · exact t1_b r
  · simp
theorem sFl_back {a : Int} {r : Rs} (h : (sFl a r).2.2 = 0) : r.2 = 0 ∧ (sFl a r).2.1.size + bx1 (127 < a) = r.1.size := by
  unfold sFl bx1 at *
  split
  · rename_i hc; rw [if_pos hc] at h; exact t1_back h
  · rename_i hc; rw [if_neg hc] at h; exact ⟨h, rfl⟩
theorem sFl_ext {a : Int} {s z : ByteArray} (h : (sFl a (s, 0)).2.2 = 0) : sFl a (s ++ z, 0) = ((sFl a (s, 0)).1, (sFl a (s, 0)).2.1 ++ z, 0) := by
  unfold sFl at *
  split
  · rename_i hc; rw [if_pos hc] at h; exact t1_ext h
  · rfl
theorem sFl_01 {a : Int} {r : Rs} (h : r.2 = 0 ∨ r.2 = 1) : (sFl a r).2.2 = 0 ∨ (sFl a r).2.2 = 1 := by
  unfold sFl; split
  · exact t1_01 h
  · exact h
/-! the picture's number -/
theorem sPic_v (f : Int) (r : Rs) : (f / 128 % 2 = 1 ∧ 0 ≤ (sPic f r).1 ∧ (sPic f r).1 ≤ 32767 ∧ ((sPic f r).2.1 = false → (sPic f r).1 ≤ 127)) ∨ (f / 128 % 2 ≠ 1 ∧ (sPic f r).1 = -1 ∧ (sPic f r).2.1 = false) := by
  unfold sPic
  have h1 := t1_b r
  have h2 := t1_b (t1 r).2
  by_cases hc : f / 128 % 2 = 1
  · refine .inl ⟨hc, ?_⟩
    rw [if_pos hc]
    split
    · simp only; refine ⟨by omega, by omega, fun h => by cases h⟩
    · simp only; refine ⟨by omega, by omega, fun _ => by omega⟩
  · exact .inr ⟨hc, by rw [if_neg hc], by rw [if_neg hc]⟩
theorem sPic_back {f : Int} {r : Rs} (h : (sPic f r).2.2.2 = 0) : r.2 = 0 ∧ (sPic f r).2.2.1.size + (if f / 128 % 2 = 1 then (if (sPic f r).2.1 = true then 2 else 1) else 0) = r.1.size := by
  unfold sPic at *
  by_cases hc : f / 128 % 2 = 1
  · rw [if_pos hc] at h ⊢
    rw [if_pos hc]
    by_cases hn : 127 < (t1 r).1
    · rw [if_pos hn] at h ⊢
      obtain ⟨h1, h2⟩ := t1_back (r := (t1 r).2) h
      obtain ⟨h3, h4⟩ := t1_back (r := r) h1
      refine ⟨h3, ?_⟩
      simp only [if_true]; omega
    · rw [if_neg hn] at h ⊢
      obtain ⟨h3, h4⟩ := t1_back (r := r) h
      exact ⟨h3, h4⟩
  · rw [if_neg hc] at h ⊢
    rw [if_neg hc]
    exact ⟨h, rfl⟩
theorem sPic_ext {f : Int} {s z : ByteArray} (h : (sPic f (s, 0)).2.2.2 = 0) : sPic f (s ++ z, 0) = ((sPic f (s, 0)).1, (sPic f (s, 0)).2.1, (sPic f (s, 0)).2.2.1 ++ z, 0) := by
  unfold sPic at *
  by_cases hc : f / 128 % 2 = 1
  · rw [if_pos hc] at h
    rw [if_pos hc, if_pos hc]
    by_cases hn : 127 < (t1 (s, 0)).1
    · rw [if_pos hn] at h
      obtain ⟨h1, _⟩ := t1_back (r := (t1 (s, 0)).2) h
      have e1 := t1_ext (z := z) h1
      have e2 := t1_ext (s := (t1 (s, 0)).2.1) (z := z) (by rw [rs_eta h1]; exact h)
      rw [rs_eta h1] at e2
      rw [e1, if_pos hn, if_pos hn]
      simp only
      rw [e2]
    · rw [if_neg hn] at h
      have e1 := t1_ext (z := z) h
      rw [e1, if_neg hn, if_neg hn]
  · rw [if_neg hc, if_neg hc]
theorem sPic_01 {f : Int} {r : Rs} (h : r.2 = 0 ∨ r.2 = 1) : (sPic f r).2.2.2 = 0 ∨ (sPic f r).2.2.2 = 1 := by
  unfold sPic
  split
  · split
    · exact t1_01 (t1_01 h)
    · exact t1_01 h
  · exact h
/-! the level's -/
theorem sLv_v (f : Int) (r : Rs) : (f / 64 % 2 = 1 ∧ 0 ≤ (sLv f r).1 ∧ (sLv f r).1 ≤ 255) ∨ (f / 64 % 2 ≠ 1 ∧ (sLv f r).1 = -1) := by
  unfold sLv
  by_cases hc : f / 64 % 2 = 1
  · exact .inl ⟨hc, by rw [if_pos hc]; exact t1_b r⟩
  · exact .inr ⟨hc, by rw [if_neg hc]⟩
theorem sLv_back {f : Int} {r : Rs} (h : (sLv f r).2.2 = 0) : r.2 = 0 ∧ (sLv f r).2.1.size + bx1 (f / 64 % 2 = 1) = r.1.size := by
  unfold sLv bx1 at *
  split
  · rename_i hc; rw [if_pos hc] at h; exact t1_back h
  · rename_i hc; rw [if_neg hc] at h; exact ⟨h, rfl⟩
theorem sLv_ext {f : Int} {s z : ByteArray} (h : (sLv f (s, 0)).2.2 = 0) : sLv f (s ++ z, 0) = ((sLv f (s, 0)).1, (sLv f (s, 0)).2.1 ++ z, 0) := by
  unfold sLv at *
  split
  · rename_i hc; rw [if_pos hc] at h; exact t1_ext h
  · rfl
theorem sLv_01 {f : Int} {r : Rs} (h : r.2 = 0 ∨ r.2 = 1) : (sLv f r).2.2 = 0 ∨ (sLv f r).2.2 = 1 := by
  unfold sLv; split
  · exact t1_01 h
  · exact h
/-! the rest -/
theorem sLast_v (f : Int) (r : Rs) : -1 ≤ (sLast f r).1 ∧ (sLast f r).1 ≤ 3 ∧ -1 ≤ (sLast f r).2.2.1 ∧ (sLast f r).2.2.1 ≤ 31 ∧ ((sLast f r).1 < 0 → (sLast f r).2.1 = false) ∧ (0 ≤ (sLast f r).1 ∨ 0 ≤ (sLast f r).2.2.1 → 0 < f / 16 % 4) ∧ (0 ≤ (sLast f r).1 → f / 32 % 2 = 1) ∧ (0 ≤ (sLast f r).2.2.1 → f / 16 % 2 = 1) := by
  unfold sLast
  have h1 := t1_b r
  by_cases hc : 0 < f / 16 % 4
  · rw [if_pos hc]
    simp only
    by_cases h2 : f / 32 % 2 = 1 <;> by_cases h3 : f / 16 % 2 = 1
    · rw [if_pos h2, if_pos h3]; exact ⟨by omega, by omega, by omega, by omega, fun h => by omega, fun _ => hc, fun _ => h2, fun _ => h3⟩
    · rw [if_pos h2, if_neg h3]; exact ⟨by omega, by omega, by omega, by omega, fun h => by omega, fun _ => hc, fun _ => h2, fun h => by omega⟩
    · rw [if_neg h2, if_pos h3]; exact ⟨by omega, by omega, by omega, by omega, fun _ => by simp [h2], fun _ => hc, fun h => by omega, fun _ => h3⟩
    · omega
  · rw [if_neg hc]; exact ⟨by simp, by simp, by simp, by simp, fun _ => rfl, fun h => by simp at h, fun h => by simp at h, fun h => by simp at h⟩
theorem sLast_back {f : Int} {r : Rs} (h : (sLast f r).2.2.2.2 = 0) : r.2 = 0 ∧ (sLast f r).2.2.2.1.size + bx1 (0 < f / 16 % 4) = r.1.size := by
  unfold sLast bx1 at *
  by_cases hc : 0 < f / 16 % 4
  · rw [if_pos hc] at h
    rw [if_pos hc, if_pos hc]; exact t1_back h
  · rw [if_neg hc] at h
    rw [if_neg hc, if_neg hc]; exact ⟨h, rfl⟩
theorem sLast_ext {f : Int} {s z : ByteArray} (h : (sLast f (s, 0)).2.2.2.2 = 0) : sLast f (s ++ z, 0) = ((sLast f (s, 0)).1, (sLast f (s, 0)).2.1, (sLast f (s, 0)).2.2.1, (sLast f (s, 0)).2.2.2.1 ++ z, 0) := by
  unfold sLast at *
  by_cases hc : 0 < f / 16 % 4
  · rw [if_pos hc] at h
    have e1 := t1_ext (z := z) h
    rw [if_pos hc, if_pos hc, e1]
  · rw [if_neg hc, if_neg hc]
theorem sLast_01 {f : Int} {r : Rs} (h : r.2 = 0 ∨ r.2 = 1) : (sLast f r).2.2.2.2 = 0 ∨ (sLast f r).2.2.2.2 = 1 := by
  unfold sLast; split
  · exact t1_01 h
  · exact h
/-! all -/
theorem prs_e (s : ByteArray) : ((prs s).2.2 = 0) ∨ (prs s = (Dc0, E0, 1)) := by
  unfold prs mkD
  simp only
  split
  · rename_i h
    have h1 : (t1 (s, 0)).2.2 = 0 ∨ (t1 (s, 0)).2.2 = 1 := t1_01 (.inl rfl)
    rcases sLast_01 (f := (sFl (t1 (s, 0)).1 (t1 (s, 0)).2).1) (sLv_01 (f := (sFl (t1 (s, 0)).1 (t1 (s, 0)).2).1) (sPic_01 (f := (sFl (t1 (s, 0)).1 (t1 (s, 0)).2).1) (sFl_01 (a := (t1 (s, 0)).1) h1))) with h2 | h2
    · exact absurd h2 h
    · right; rw [h2]
  · exact .inl rfl
theorem prs_back {s : ByteArray} (h : (prs s).2.2 = 0) :
    (t1 (s, 0)).2.2 = 0 ∧ (sFl (t1 (s, 0)).1 (t1 (s, 0)).2).2.2 = 0 ∧ (sPic (sFl (t1 (s, 0)).1 (t1 (s, 0)).2).1 (sFl (t1 (s, 0)).1 (t1 (s, 0)).2).2).2.2.2 = 0
    ∧ (sLv (sFl (t1 (s, 0)).1 (t1 (s, 0)).2).1 (sPic (sFl (t1 (s, 0)).1 (t1 (s, 0)).2).1 (sFl (t1 (s, 0)).1 (t1 (s, 0)).2).2).2.2).2.2 = 0
    ∧ (sLast (sFl (t1 (s, 0)).1 (t1 (s, 0)).2).1 (sLv (sFl (t1 (s, 0)).1 (t1 (s, 0)).2).1 (sPic (sFl (t1 (s, 0)).1 (t1 (s, 0)).2).1 (sFl (t1 (s, 0)).1 (t1 (s, 0)).2).2).2.2).2).2.2.2.2 = 0 := by
  unfold prs mkD at h
  simp only at h
  split at h
  · rename_i h2; exact absurd h h2
  · rename_i h2
    have h5 := Classical.not_not.1 h2
    have h4 := (sLast_back h5).1
    have h3 := (sLv_back h4).1
    have h2' := (sPic_back h3).1
    have h1 := (sFl_back h2').1
    exact ⟨h1, h2', h3, h4, h5⟩
theorem prs_eq {s : ByteArray} {a : Int} {r1 r2 r3 r4 r5 : ByteArray} {f p : Int} {w : Bool} {l y k : Int} {sy : Bool} (h1 : t1 (s, 0) = (a, r1, 0)) (h2 : sFl a (r1, 0) = (f, r2, 0)) (h3 : sPic f (r2, 0) = (p, w, r3, 0)) (h4 : sLv f (r3, 0) = (l, r4, 0)) (h5 : sLast f (r4, 0) = (y, sy, k, r5, 0)) :
    prs s = (⟨decide (a / 32 % 2 = 1), decide (a / 16 % 2 = 1), a % 8, p, w, l, y, sy, k⟩, r5, 0) := by
  unfold prs
  rw [h1]; simp only; rw [h2]; simp only; rw [h3]; simp only; rw [h4]; simp only; rw [h5]
  unfold mkD; simp
theorem prs_parts {s : ByteArray} (h : (prs s).2.2 = 0) : ∃ a r1 f r2 p w r3 l r4 y sy k r5, t1 (s, 0) = (a, r1, 0) ∧ sFl a (r1, 0) = (f, r2, 0) ∧ sPic f (r2, 0) = (p, w, r3, 0) ∧ sLv f (r3, 0) = (l, r4, 0) ∧ sLast f (r4, 0) = (y, sy, k, r5, 0) := by
  obtain ⟨h1, h2, h3, h4, h5⟩ := prs_back h
  generalize e1 : t1 (s, 0) = x1 at *
  obtain ⟨a, r1, z1⟩ := x1
  simp only at h1; subst h1
  simp only at *
  generalize e2 : sFl a (r1, 0) = x2 at *
  obtain ⟨f, r2, z2⟩ := x2
  simp only at h2; subst h2
  simp only at *
  generalize e3 : sPic f (r2, 0) = x3 at *
  obtain ⟨p, w, r3, z3⟩ := x3
  simp only at h3; subst h3
  simp only at *
  generalize e4 : sLv f (r3, 0) = x4 at *
  obtain ⟨l, r4, z4⟩ := x4
  simp only at h4; subst h4
  simp only at *
  generalize e5 : sLast f (r4, 0) = x5 at *
  obtain ⟨y, sy, k, r5, z5⟩ := x5
  simp only at h5; subst h5
  exact ⟨a, r1, f, r2, p, w, r3, l, r4, y, sy, k, r5, rfl, e2, e3, e4, e5⟩
theorem prs_ext {s z : ByteArray} (h : (prs s).2.2 = 0) : prs (s ++ z) = ((prs s).1, (prs s).2.1 ++ z, 0) := by
  obtain ⟨a, r1, f, r2, p, w, r3, l, r4, y, sy, k, r5, h1, h2, h3, h4, h5⟩ := prs_parts h
  rw [prs_eq h1 h2 h3 h4 h5]
  have g1 := t1_ext (z := z) (show (t1 (s, 0)).2.2 = 0 by rw [h1])
  have g2 := sFl_ext (z := z) (show (sFl a (r1, 0)).2.2 = 0 by rw [h2])
  have g3 := sPic_ext (z := z) (show (sPic f (r2, 0)).2.2.2 = 0 by rw [h3])
  have g4 := sLv_ext (z := z) (show (sLv f (r3, 0)).2.2 = 0 by rw [h4])
  have g5 := sLast_ext (z := z) (show (sLast f (r4, 0)).2.2.2.2 = 0 by rw [h5])
  rw [h1] at g1; rw [h2] at g2; rw [h3] at g3; rw [h4] at g4; rw [h5] at g5
  exact prs_eq g1 g2 g3 g4 g5
theorem tPic_size (d : Dc) : (tPic d).size = if 0 ≤ d.pic then (if d.wd = true then 2 else 1) else 0 := by
  unfold tPic
  split
  · split
    · exact numS_size 2 _
    · rfl
  · rfl
theorem prs_ok {s : ByteArray} (h : (prs s).2.2 = 0) : okA (prs s).1 ∧ okF (prs s).1 ∧ (txt (prs s).1).size + (prs s).2.1.size ≤ s.size := by
  obtain ⟨a, r1, f, r2, p, w, r3, l, r4, y, sy, k, r5, h1, h2, h3, h4, h5⟩ := prs_parts h
  rw [prs_eq h1 h2 h3 h4 h5]
  have ha := t1_b (s, 0)
  have b1' := t1_back (r := (s, 0)) (by rw [h1])
  have b2 := sFl_back (a := a) (r := (r1, 0)) (by rw [h2])
  have b3 := sPic_back (f := f) (r := (r2, 0)) (by rw [h3])
  have b4 := sLv_back (f := f) (r := (r3, 0)) (by rw [h4])
  have b5 := sLast_back (f := f) (r := (r4, 0)) (by rw [h5])
  have v3 := sPic_v f (r2, 0)
  have v4 := sLv_v f (r3, 0)
  have v5 := sLast_v f (r4, 0)
  have hf0 : ¬ 127 < a → f = 0 := fun hn => by unfold sFl at h2; rw [if_neg hn] at h2; exact (Prod.ext_iff.1 h2).1.symm
  rw [h1] at ha b1'; rw [h2] at b2; rw [h3] at b3 v3; rw [h4] at b4 v4; rw [h5] at b5 v5
  simp only [bx1] at *
  obtain ⟨v51, v52, v53, v54, v55, v56, v57, v58⟩ := v5
  refine ⟨⟨by simp only; omega, by simp only; omega, by simp only; omega, by simp only; omega, by simp only; omega, by simp only; omega, v51, v52, v53, v54⟩, ⟨?_, ?_, ?_⟩, ?_⟩
  · rintro ⟨g1, g2⟩; simp only at g1 g2
    rcases v3 with v3 | v3
    · omega
    · rw [v3.2.2] at g2; cases g2
  · rintro ⟨g1, g2⟩; simp only at g1 g2
    rcases v3 with v3 | v3
    · have := v3.2.2.2 g2; omega
    · omega
  · rintro ⟨g1, g2⟩; simp only at g1 g2
    rw [v55 g1] at g2; cases g2
  · unfold txt
    rw [ByteArray.size_append, b1_size]
    by_cases hm : moreB ⟨decide (a / 32 % 2 = 1), decide (a / 16 % 2 = 1), a % 8, p, w, l, y, sy, k⟩ = true
    · rw [if_pos hm, ByteArray.size_append, ByteArray.size_append, ByteArray.size_append, b1_size, tPic_size]
      have h127 : 127 < a := by
        by_cases h : 127 < a
        · exact h
        · exfalso
          have := hf0 h; subst this
          unfold moreB at hm
          simp only [Bool.or_eq_true, decide_eq_true_eq] at hm
          omega
      have l1 : (tLv ⟨decide (a / 32 % 2 = 1), decide (a / 16 % 2 = 1), a % 8, p, w, l, y, sy, k⟩).size = if 0 ≤ l then 1 else 0 := by unfold tLv; split <;> rfl
      have l2 : (tLast ⟨decide (a / 32 % 2 = 1), decide (a / 16 % 2 = 1), a % 8, p, w, l, y, sy, k⟩).size = if 0 ≤ y ∨ 0 ≤ k then 1 else 0 := by unfold tLast; split <;> rfl
      rw [l1, l2]
      simp only
      rw [if_pos h127] at b2
      have q3 : (if 0 ≤ p then (if w = true then 2 else 1) else 0) + r3.size ≤ r2.size := by
        rcases v3 with v3 | v3
        · rw [if_pos v3.1] at b3; rw [if_pos v3.2.1]; omega
        · rw [if_neg v3.1] at b3; rw [if_neg (by omega)]; omega
      have q4 : (if 0 ≤ l then 1 else 0) + r4.size ≤ r3.size := by
        rcases v4 with v4 | v4
        · rw [if_pos v4.1] at b4; rw [if_pos v4.2.1]; omega
        · rw [if_neg v4.1] at b4; rw [if_neg (by omega)]; omega
      have q5 : (if 0 ≤ y ∨ 0 ≤ k then 1 else 0) + r5.size ≤ r4.size := by
        by_cases h : 0 ≤ y ∨ 0 ≤ k
        · rw [if_pos (v56 h)] at b5; rw [if_pos h]; omega
        · rw [if_neg h]; split at b5 <;> omega
      omega
    · rw [if_neg hm]
      have : E0.size = 0 := rfl
      rw [this]
      have e2 : r2.size ≤ r1.size := by have := b2.2; split at this <;> omega
      have e3 : r3.size ≤ r2.size := by omega
      have e4 : r4.size ≤ r3.size := by have := b4.2; split at this <;> omega
      have e5 : r5.size ≤ r4.size := by have := b5.2; split at this <;> omega
      omega
/-- a beginning of a valid descriptor's bytes is none -/
theorem prs_cut {d : Dc} (ha : okA d) (hf : okF d) {s z : ByteArray} (h : s ++ z = txt d) (hz : 0 < z.size) : prs s = (Dc0, E0, 1) := by
  rcases prs_e s with h1 | h1
  · exfalso
    have h2 := prs_ext (z := z) h1
    have h3 := prs_txt ha hf E0
    rw [append_E0, ← h, h2] at h3
    have h4 := congrArg (fun x => x.2.1.size) h3
    simp only at h4
    rw [ByteArray.size_append] at h4
    have : E0.size = 0 := rfl
    omega
  · exact h1
end Go.Proofs.Ytlhlidmhlhodiaa

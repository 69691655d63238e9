/-
  What interface values of this seat's program do, as instances. (Written by wip/tools/ifaces.py.)
-/
import Derived.Test.YtnjicnadlhfocaaTy
import Derived.Test.YtnjicnadlhfocaaSpI
namespace Go.Proofs.Ytnjicnadlhfocaa
set_option linter.unusedVariables false

instance : TIfc Try.prog 53 := ⟨fun _ _ => by kernel_rfl⟩
instance : TIfc Try.prog 66 := ⟨fun _ _ => by kernel_rfl⟩
instance : TIfc Try.prog 68 := ⟨fun _ _ => by kernel_rfl⟩
instance : TIfc Try.prog 73 := ⟨fun _ _ => by kernel_rfl⟩
instance : TIfc Try.prog 75 := ⟨fun _ _ => by kernel_rfl⟩
instance : TIfc Try.prog 77 := ⟨fun _ _ => by kernel_rfl⟩
instance : TIfc Try.prog 143 := ⟨fun _ _ => by kernel_rfl⟩
instance : TIfc Try.prog 186 := ⟨fun _ _ => by kernel_rfl⟩
instance : TIfc Try.prog 197 := ⟨fun _ _ => by kernel_rfl⟩
instance : TAs Try.prog 31 53 66 (fun _ => .tuple #[.agg #[.int .u32 0, .int .u32 0, .slice none 0 0], .bool false]) := ⟨fun _ _ => by kernel_rfl⟩
instance : TAs Try.prog 31 66 66 (fun v => .tuple #[v, .bool true]) := ⟨fun _ _ => by kernel_rfl⟩
instance : TAs Try.prog 31 68 66 (fun _ => .tuple #[.agg #[.int .u32 0, .int .u32 0, .slice none 0 0], .bool false]) := ⟨fun _ _ => by kernel_rfl⟩
instance : TAs Try.prog 31 73 66 (fun _ => .tuple #[.agg #[.int .u32 0, .int .u32 0, .slice none 0 0], .bool false]) := ⟨fun _ _ => by kernel_rfl⟩
instance : TAs Try.prog 31 75 66 (fun _ => .tuple #[.agg #[.int .u32 0, .int .u32 0, .slice none 0 0], .bool false]) := ⟨fun _ _ => by kernel_rfl⟩
instance : TAs Try.prog 31 77 66 (fun _ => .tuple #[.agg #[.int .u32 0, .int .u32 0, .slice none 0 0], .bool false]) := ⟨fun _ _ => by kernel_rfl⟩
instance : TAs Try.prog 31 143 66 (fun _ => .tuple #[.agg #[.int .u32 0, .int .u32 0, .slice none 0 0], .bool false]) := ⟨fun _ _ => by kernel_rfl⟩
instance : TAs Try.prog 31 186 66 (fun _ => .tuple #[.agg #[.int .u32 0, .int .u32 0, .slice none 0 0], .bool false]) := ⟨fun _ _ => by kernel_rfl⟩
instance : TAs Try.prog 31 197 66 (fun _ => .tuple #[.agg #[.int .u32 0, .int .u32 0, .slice none 0 0], .bool false]) := ⟨fun _ _ => by kernel_rfl⟩
instance : TAs Try.prog 31 53 68 (fun _ => .tuple #[.agg #[.int .u32 0, .int .u32 0], .bool false]) := ⟨fun _ _ => by kernel_rfl⟩
instance : TAs Try.prog 31 66 68 (fun _ => .tuple #[.agg #[.int .u32 0, .int .u32 0], .bool false]) := ⟨fun _ _ => by kernel_rfl⟩
instance : TAs Try.prog 31 68 68 (fun v => .tuple #[v, .bool true]) := ⟨fun _ _ => by kernel_rfl⟩
instance : TAs Try.prog 31 73 68 (fun _ => .tuple #[.agg #[.int .u32 0, .int .u32 0], .bool false]) := ⟨fun _ _ => by kernel_rfl⟩
instance : TAs Try.prog 31 75 68 (fun _ => .tuple #[.agg #[.int .u32 0, .int .u32 0], .bool false]) := ⟨fun _ _ => by kernel_rfl⟩
instance : TAs Try.prog 31 77 68 (fun _ => .tuple #[.agg #[.int .u32 0, .int .u32 0], .bool false]) := ⟨fun _ _ => by kernel_rfl⟩
instance : TAs Try.prog 31 143 68 (fun _ => .tuple #[.agg #[.int .u32 0, .int .u32 0], .bool false]) := ⟨fun _ _ => by kernel_rfl⟩
instance : TAs Try.prog 31 186 68 (fun _ => .tuple #[.agg #[.int .u32 0, .int .u32 0], .bool false]) := ⟨fun _ _ => by kernel_rfl⟩
instance : TAs Try.prog 31 197 68 (fun _ => .tuple #[.agg #[.int .u32 0, .int .u32 0], .bool false]) := ⟨fun _ _ => by kernel_rfl⟩
instance : TAs Try.prog 31 53 73 (fun _ => .tuple #[.agg #[.int .u32 0, .slice none 0 0], .bool false]) := ⟨fun _ _ => by kernel_rfl⟩
instance : TAs Try.prog 31 66 73 (fun _ => .tuple #[.agg #[.int .u32 0, .slice none 0 0], .bool false]) := ⟨fun _ _ => by kernel_rfl⟩
instance : TAs Try.prog 31 68 73 (fun _ => .tuple #[.agg #[.int .u32 0, .slice none 0 0], .bool false]) := ⟨fun _ _ => by kernel_rfl⟩
instance : TAs Try.prog 31 73 73 (fun v => .tuple #[v, .bool true]) := ⟨fun _ _ => by kernel_rfl⟩
instance : TAs Try.prog 31 75 73 (fun _ => .tuple #[.agg #[.int .u32 0, .slice none 0 0], .bool false]) := ⟨fun _ _ => by kernel_rfl⟩
instance : TAs Try.prog 31 77 73 (fun _ => .tuple #[.agg #[.int .u32 0, .slice none 0 0], .bool false]) := ⟨fun _ _ => by kernel_rfl⟩
instance : TAs Try.prog 31 143 73 (fun _ => .tuple #[.agg #[.int .u32 0, .slice none 0 0], .bool false]) := ⟨fun _ _ => by kernel_rfl⟩
instance : TAs Try.prog 31 186 73 (fun _ => .tuple #[.agg #[.int .u32 0, .slice none 0 0], .bool false]) := ⟨fun _ _ => by kernel_rfl⟩
instance : TAs Try.prog 31 197 73 (fun _ => .tuple #[.agg #[.int .u32 0, .slice none 0 0], .bool false]) := ⟨fun _ _ => by kernel_rfl⟩
instance : TAs Try.prog 31 53 75 (fun _ => .tuple #[.agg #[.int .u32 0, .int .u64 0, .slice none 0 0], .bool false]) := ⟨fun _ _ => by kernel_rfl⟩
instance : TAs Try.prog 31 66 75 (fun _ => .tuple #[.agg #[.int .u32 0, .int .u64 0, .slice none 0 0], .bool false]) := ⟨fun _ _ => by kernel_rfl⟩
instance : TAs Try.prog 31 68 75 (fun _ => .tuple #[.agg #[.int .u32 0, .int .u64 0, .slice none 0 0], .bool false]) := ⟨fun _ _ => by kernel_rfl⟩
instance : TAs Try.prog 31 73 75 (fun _ => .tuple #[.agg #[.int .u32 0, .int .u64 0, .slice none 0 0], .bool false]) := ⟨fun _ _ => by kernel_rfl⟩
instance : TAs Try.prog 31 75 75 (fun v => .tuple #[v, .bool true]) := ⟨fun _ _ => by kernel_rfl⟩
instance : TAs Try.prog 31 77 75 (fun _ => .tuple #[.agg #[.int .u32 0, .int .u64 0, .slice none 0 0], .bool false]) := ⟨fun _ _ => by kernel_rfl⟩
instance : TAs Try.prog 31 143 75 (fun _ => .tuple #[.agg #[.int .u32 0, .int .u64 0, .slice none 0 0], .bool false]) := ⟨fun _ _ => by kernel_rfl⟩
instance : TAs Try.prog 31 186 75 (fun _ => .tuple #[.agg #[.int .u32 0, .int .u64 0, .slice none 0 0], .bool false]) := ⟨fun _ _ => by kernel_rfl⟩
instance : TAs Try.prog 31 197 75 (fun _ => .tuple #[.agg #[.int .u32 0, .int .u64 0, .slice none 0 0], .bool false]) := ⟨fun _ _ => by kernel_rfl⟩
instance : TAs Try.prog 31 53 77 (fun _ => .tuple #[.agg #[.slice none 0 0, .string ByteArray.empty], .bool false]) := ⟨fun _ _ => by kernel_rfl⟩
instance : TAs Try.prog 31 66 77 (fun _ => .tuple #[.agg #[.slice none 0 0, .string ByteArray.empty], .bool false]) := ⟨fun _ _ => by kernel_rfl⟩
instance : TAs Try.prog 31 68 77 (fun _ => .tuple #[.agg #[.slice none 0 0, .string ByteArray.empty], .bool false]) := ⟨fun _ _ => by kernel_rfl⟩
instance : TAs Try.prog 31 73 77 (fun _ => .tuple #[.agg #[.slice none 0 0, .string ByteArray.empty], .bool false]) := ⟨fun _ _ => by kernel_rfl⟩
instance : TAs Try.prog 31 75 77 (fun _ => .tuple #[.agg #[.slice none 0 0, .string ByteArray.empty], .bool false]) := ⟨fun _ _ => by kernel_rfl⟩
instance : TAs Try.prog 31 77 77 (fun v => .tuple #[v, .bool true]) := ⟨fun _ _ => by kernel_rfl⟩
instance : TAs Try.prog 31 143 77 (fun _ => .tuple #[.agg #[.slice none 0 0, .string ByteArray.empty], .bool false]) := ⟨fun _ _ => by kernel_rfl⟩
instance : TAs Try.prog 31 186 77 (fun _ => .tuple #[.agg #[.slice none 0 0, .string ByteArray.empty], .bool false]) := ⟨fun _ _ => by kernel_rfl⟩
instance : TAs Try.prog 31 197 77 (fun _ => .tuple #[.agg #[.slice none 0 0, .string ByteArray.empty], .bool false]) := ⟨fun _ _ => by kernel_rfl⟩
instance : FO Try.prog 45 1 1 := ⟨by kernel_rfl⟩
end Go.Proofs.Ytnjicnadlhfocaa

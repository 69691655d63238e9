/-
  What interface values of this seat's program do, as instances. (Written by wip/tools/ifaces.py.)
-/
import Derived.Test.YtlhlidmhlhodiaaTy
import Derived.Test.YtlhlidmhlhodiaaSpI
namespace Go.Proofs.Ytlhlidmhlhodiaa
set_option linter.unusedVariables false

instance : TIfc Try.prog 75 := ⟨fun _ _ => by kernel_rfl⟩
instance : TIfc Try.prog 77 := ⟨fun _ _ => by kernel_rfl⟩
instance : TIfc Try.prog 190 := ⟨fun _ _ => by kernel_rfl⟩
instance : TIfc Try.prog 194 := ⟨fun _ _ => by kernel_rfl⟩
instance : TIfc Try.prog 197 := ⟨fun _ _ => by kernel_rfl⟩
instance : TIfc Try.prog 267 := ⟨fun _ _ => by kernel_rfl⟩
instance : TIfc Try.prog 269 := ⟨fun _ _ => by kernel_rfl⟩
instance : TIfc Try.prog 273 := ⟨fun _ _ => by kernel_rfl⟩
instance : TIfc Try.prog 312 := ⟨fun _ _ => by kernel_rfl⟩
instance : TAs Try.prog 179 75 75 (fun v => .tuple #[v, .bool true]) := ⟨fun _ _ => by kernel_rfl⟩
instance : TAs Try.prog 179 77 75 (fun _ => .tuple #[.agg #[.int .u32 0, .int .u32 0, .slice none 0 0], .bool false]) := ⟨fun _ _ => by kernel_rfl⟩
instance : TAs Try.prog 179 190 75 (fun _ => .tuple #[.agg #[.int .u32 0, .int .u32 0, .slice none 0 0], .bool false]) := ⟨fun _ _ => by kernel_rfl⟩
instance : TAs Try.prog 179 194 75 (fun _ => .tuple #[.agg #[.int .u32 0, .int .u32 0, .slice none 0 0], .bool false]) := ⟨fun _ _ => by kernel_rfl⟩
instance : TAs Try.prog 179 197 75 (fun _ => .tuple #[.agg #[.int .u32 0, .int .u32 0, .slice none 0 0], .bool false]) := ⟨fun _ _ => by kernel_rfl⟩
instance : TAs Try.prog 179 267 75 (fun _ => .tuple #[.agg #[.int .u32 0, .int .u32 0, .slice none 0 0], .bool false]) := ⟨fun _ _ => by kernel_rfl⟩
instance : TAs Try.prog 179 269 75 (fun _ => .tuple #[.agg #[.int .u32 0, .int .u32 0, .slice none 0 0], .bool false]) := ⟨fun _ _ => by kernel_rfl⟩
instance : TAs Try.prog 179 273 75 (fun _ => .tuple #[.agg #[.int .u32 0, .int .u32 0, .slice none 0 0], .bool false]) := ⟨fun _ _ => by kernel_rfl⟩
instance : TAs Try.prog 179 312 75 (fun _ => .tuple #[.agg #[.int .u32 0, .int .u32 0, .slice none 0 0], .bool false]) := ⟨fun _ _ => by kernel_rfl⟩
instance : TAs Try.prog 179 75 77 (fun _ => .tuple #[.agg #[.int .u32 0, .int .u32 0], .bool false]) := ⟨fun _ _ => by kernel_rfl⟩
instance : TAs Try.prog 179 77 77 (fun v => .tuple #[v, .bool true]) := ⟨fun _ _ => by kernel_rfl⟩
instance : TAs Try.prog 179 190 77 (fun _ => .tuple #[.agg #[.int .u32 0, .int .u32 0], .bool false]) := ⟨fun _ _ => by kernel_rfl⟩
instance : TAs Try.prog 179 194 77 (fun _ => .tuple #[.agg #[.int .u32 0, .int .u32 0], .bool false]) := ⟨fun _ _ => by kernel_rfl⟩
instance : TAs Try.prog 179 197 77 (fun _ => .tuple #[.agg #[.int .u32 0, .int .u32 0], .bool false]) := ⟨fun _ _ => by kernel_rfl⟩
instance : TAs Try.prog 179 267 77 (fun _ => .tuple #[.agg #[.int .u32 0, .int .u32 0], .bool false]) := ⟨fun _ _ => by kernel_rfl⟩
instance : TAs Try.prog 179 269 77 (fun _ => .tuple #[.agg #[.int .u32 0, .int .u32 0], .bool false]) := ⟨fun _ _ => by kernel_rfl⟩
instance : TAs Try.prog 179 273 77 (fun _ => .tuple #[.agg #[.int .u32 0, .int .u32 0], .bool false]) := ⟨fun _ _ => by kernel_rfl⟩
instance : TAs Try.prog 179 312 77 (fun _ => .tuple #[.agg #[.int .u32 0, .int .u32 0], .bool false]) := ⟨fun _ _ => by kernel_rfl⟩
instance : TAs Try.prog 179 75 190 (fun _ => .tuple #[.agg #[.int .u32 0, .slice none 0 0], .bool false]) := ⟨fun _ _ => by kernel_rfl⟩
instance : TAs Try.prog 179 77 190 (fun _ => .tuple #[.agg #[.int .u32 0, .slice none 0 0], .bool false]) := ⟨fun _ _ => by kernel_rfl⟩
instance : TAs Try.prog 179 190 190 (fun v => .tuple #[v, .bool true]) := ⟨fun _ _ => by kernel_rfl⟩
instance : TAs Try.prog 179 194 190 (fun _ => .tuple #[.agg #[.int .u32 0, .slice none 0 0], .bool false]) := ⟨fun _ _ => by kernel_rfl⟩
instance : TAs Try.prog 179 197 190 (fun _ => .tuple #[.agg #[.int .u32 0, .slice none 0 0], .bool false]) := ⟨fun _ _ => by kernel_rfl⟩
instance : TAs Try.prog 179 267 190 (fun _ => .tuple #[.agg #[.int .u32 0, .slice none 0 0], .bool false]) := ⟨fun _ _ => by kernel_rfl⟩
instance : TAs Try.prog 179 269 190 (fun _ => .tuple #[.agg #[.int .u32 0, .slice none 0 0], .bool false]) := ⟨fun _ _ => by kernel_rfl⟩
instance : TAs Try.prog 179 273 190 (fun _ => .tuple #[.agg #[.int .u32 0, .slice none 0 0], .bool false]) := ⟨fun _ _ => by kernel_rfl⟩
instance : TAs Try.prog 179 312 190 (fun _ => .tuple #[.agg #[.int .u32 0, .slice none 0 0], .bool false]) := ⟨fun _ _ => by kernel_rfl⟩
instance : TAs Try.prog 179 75 194 (fun _ => .tuple #[.agg #[.int .u32 0, .int .u64 0, .slice none 0 0], .bool false]) := ⟨fun _ _ => by kernel_rfl⟩
instance : TAs Try.prog 179 77 194 (fun _ => .tuple #[.agg #[.int .u32 0, .int .u64 0, .slice none 0 0], .bool false]) := ⟨fun _ _ => by kernel_rfl⟩
instance : TAs Try.prog 179 190 194 (fun _ => .tuple #[.agg #[.int .u32 0, .int .u64 0, .slice none 0 0], .bool false]) := ⟨fun _ _ => by kernel_rfl⟩
instance : TAs Try.prog 179 194 194 (fun v => .tuple #[v, .bool true]) := ⟨fun _ _ => by kernel_rfl⟩
instance : TAs Try.prog 179 197 194 (fun _ => .tuple #[.agg #[.int .u32 0, .int .u64 0, .slice none 0 0], .bool false]) := ⟨fun _ _ => by kernel_rfl⟩
instance : TAs Try.prog 179 267 194 (fun _ => .tuple #[.agg #[.int .u32 0, .int .u64 0, .slice none 0 0], .bool false]) := ⟨fun _ _ => by kernel_rfl⟩
instance : TAs Try.prog 179 269 194 (fun _ => .tuple #[.agg #[.int .u32 0, .int .u64 0, .slice none 0 0], .bool false]) := ⟨fun _ _ => by kernel_rfl⟩
instance : TAs Try.prog 179 273 194 (fun _ => .tuple #[.agg #[.int .u32 0, .int .u64 0, .slice none 0 0], .bool false]) := ⟨fun _ _ => by kernel_rfl⟩
instance : TAs Try.prog 179 312 194 (fun _ => .tuple #[.agg #[.int .u32 0, .int .u64 0, .slice none 0 0], .bool false]) := ⟨fun _ _ => by kernel_rfl⟩
instance : TAs Try.prog 179 75 197 (fun _ => .tuple #[.agg #[.slice none 0 0, .string ByteArray.empty], .bool false]) := ⟨fun _ _ => by kernel_rfl⟩
instance : TAs Try.prog 179 77 197 (fun _ => .tuple #[.agg #[.slice none 0 0, .string ByteArray.empty], .bool false]) := ⟨fun _ _ => by kernel_rfl⟩
instance : TAs Try.prog 179 190 197 (fun _ => .tuple #[.agg #[.slice none 0 0, .string ByteArray.empty], .bool false]) := ⟨fun _ _ => by kernel_rfl⟩
instance : TAs Try.prog 179 194 197 (fun _ => .tuple #[.agg #[.slice none 0 0, .string ByteArray.empty], .bool false]) := ⟨fun _ _ => by kernel_rfl⟩
instance : TAs Try.prog 179 197 197 (fun v => .tuple #[v, .bool true]) := ⟨fun _ _ => by kernel_rfl⟩
instance : TAs Try.prog 179 267 197 (fun _ => .tuple #[.agg #[.slice none 0 0, .string ByteArray.empty], .bool false]) := ⟨fun _ _ => by kernel_rfl⟩
instance : TAs Try.prog 179 269 197 (fun _ => .tuple #[.agg #[.slice none 0 0, .string ByteArray.empty], .bool false]) := ⟨fun _ _ => by kernel_rfl⟩
instance : TAs Try.prog 179 273 197 (fun _ => .tuple #[.agg #[.slice none 0 0, .string ByteArray.empty], .bool false]) := ⟨fun _ _ => by kernel_rfl⟩
instance : TAs Try.prog 179 312 197 (fun _ => .tuple #[.agg #[.slice none 0 0, .string ByteArray.empty], .bool false]) := ⟨fun _ _ => by kernel_rfl⟩
instance : TAs Try.prog 179 75 274 (fun v => .tuple #[.iface 75 v, .bool true]) := ⟨fun _ _ => by kernel_rfl⟩
instance : TAs Try.prog 179 77 274 (fun v => .tuple #[.iface 77 v, .bool true]) := ⟨fun _ _ => by kernel_rfl⟩
instance : TAs Try.prog 179 190 274 (fun v => .tuple #[.iface 190 v, .bool true]) := ⟨fun _ _ => by kernel_rfl⟩
instance : TAs Try.prog 179 194 274 (fun v => .tuple #[.iface 194 v, .bool true]) := ⟨fun _ _ => by kernel_rfl⟩
instance : TAs Try.prog 179 197 274 (fun v => .tuple #[.iface 197 v, .bool true]) := ⟨fun _ _ => by kernel_rfl⟩
instance : TAs Try.prog 179 267 274 (fun v => .tuple #[.iface 267 v, .bool true]) := ⟨fun _ _ => by kernel_rfl⟩
instance : TAs Try.prog 179 269 274 (fun v => .tuple #[.iface 269 v, .bool true]) := ⟨fun _ _ => by kernel_rfl⟩
instance : TAs Try.prog 179 273 274 (fun v => .tuple #[.iface 273 v, .bool true]) := ⟨fun _ _ => by kernel_rfl⟩
instance : TAs Try.prog 179 312 274 (fun v => .tuple #[.iface 312 v, .bool true]) := ⟨fun _ _ => by kernel_rfl⟩
instance : TInv Try.prog 75 "Head" 219 := ⟨fun _ _ _ => by kernel_rfl⟩
instance : TInv Try.prog 77 "Head" 221 := ⟨fun _ _ _ => by kernel_rfl⟩
instance : TInv Try.prog 190 "Head" 228 := ⟨fun _ _ _ => by kernel_rfl⟩
instance : TInv Try.prog 194 "Head" 230 := ⟨fun _ _ _ => by kernel_rfl⟩
instance : TInv Try.prog 197 "Head" 233 := ⟨fun _ _ _ => by kernel_rfl⟩
instance : TInv Try.prog 267 "Head" 237 := ⟨fun _ _ _ => by kernel_rfl⟩
instance : TInv Try.prog 269 "Head" 240 := ⟨fun _ _ _ => by kernel_rfl⟩
instance : TInv Try.prog 273 "Head" 242 := ⟨fun _ _ _ => by kernel_rfl⟩
instance : TInv Try.prog 312 "Head" 246 := ⟨fun _ _ _ => by kernel_rfl⟩
instance : TInv Try.prog 75 "antiphon/rtcp.put" 220 := ⟨fun _ _ _ => by kernel_rfl⟩
instance : TInv Try.prog 77 "antiphon/rtcp.put" 222 := ⟨fun _ _ _ => by kernel_rfl⟩
instance : TInv Try.prog 190 "antiphon/rtcp.put" 229 := ⟨fun _ _ _ => by kernel_rfl⟩
instance : TInv Try.prog 194 "antiphon/rtcp.put" 231 := ⟨fun _ _ _ => by kernel_rfl⟩
instance : TInv Try.prog 197 "antiphon/rtcp.put" 234 := ⟨fun _ _ _ => by kernel_rfl⟩
instance : TInv Try.prog 267 "antiphon/rtcp.put" 238 := ⟨fun _ _ _ => by kernel_rfl⟩
instance : TInv Try.prog 269 "antiphon/rtcp.put" 241 := ⟨fun _ _ _ => by kernel_rfl⟩
instance : TInv Try.prog 273 "antiphon/rtcp.put" 243 := ⟨fun _ _ _ => by kernel_rfl⟩
instance : TInv Try.prog 312 "antiphon/rtcp.put" 247 := ⟨fun _ _ _ => by kernel_rfl⟩
instance : FO Try.prog 218 2 2 := ⟨by kernel_rfl⟩
instance : FO Try.prog 243 0 0 := ⟨by kernel_rfl⟩
end Go.Proofs.Ytlhlidmhlhodiaa

/- Closed facts of the types, by program (wip/t/facts.py). -/
import Derived.Test.YtlomipcjkkjhiaaOps
import Derived.Test.YtlomipcjkkjhiaaProg
namespace Go.Proofs.Ytlomipcjkkjhiaa.Ty
open Go Go.RowKit
set_option linter.unusedVariables false
instance : Size Go.Proofs.Try.prog 1 1 := ⟨by kernel_rfl⟩
instance : Bytes Go.Proofs.Try.prog 1 8 := ⟨by kernel_rfl⟩
instance : Zero Go.Proofs.Try.prog 1 [.nilFunc] := ⟨by kernel_rfl⟩
instance : Scal Go.Proofs.Try.prog 1 := ⟨by kernel_rfl⟩
instance : Size Go.Proofs.Try.prog 2 1 := ⟨by kernel_rfl⟩
instance : Bytes Go.Proofs.Try.prog 2 8 := ⟨by kernel_rfl⟩
instance : Zero Go.Proofs.Try.prog 2 [.int .i64 0] := ⟨by kernel_rfl⟩
instance : Scal Go.Proofs.Try.prog 2 := ⟨by kernel_rfl⟩
instance : Und Go.Proofs.Try.prog 2 (.int .i64) := ⟨Go.Proofs.Try.underlying2⟩
instance : Size Go.Proofs.Try.prog 3 1 := ⟨by kernel_rfl⟩
instance : Bytes Go.Proofs.Try.prog 3 8 := ⟨by kernel_rfl⟩
instance : Zero Go.Proofs.Try.prog 3 [.int .i64 0] := ⟨by kernel_rfl⟩
instance : Scal Go.Proofs.Try.prog 3 := ⟨by kernel_rfl⟩
instance : Und Go.Proofs.Try.prog 3 (.int .i64) := ⟨Go.Proofs.Try.underlying3⟩
instance : Size Go.Proofs.Try.prog 4 1 := ⟨by kernel_rfl⟩
instance : Bytes Go.Proofs.Try.prog 4 1 := ⟨by kernel_rfl⟩
instance : Zero Go.Proofs.Try.prog 4 [.bool false] := ⟨by kernel_rfl⟩
instance : Scal Go.Proofs.Try.prog 4 := ⟨by kernel_rfl⟩
instance : Und Go.Proofs.Try.prog 4 .bool := ⟨Go.Proofs.Try.underlying4⟩
instance : Size Go.Proofs.Try.prog 5 1 := ⟨by kernel_rfl⟩
instance : Bytes Go.Proofs.Try.prog 5 1 := ⟨by kernel_rfl⟩
instance : Zero Go.Proofs.Try.prog 5 [.int .u8 0] := ⟨by kernel_rfl⟩
instance : Scal Go.Proofs.Try.prog 5 := ⟨by kernel_rfl⟩
instance : Und Go.Proofs.Try.prog 5 (.int .u8) := ⟨Go.Proofs.Try.underlying5⟩
instance : Size Go.Proofs.Try.prog 7 4 := ⟨by kernel_rfl⟩
instance : Bytes Go.Proofs.Try.prog 7 24 := ⟨by kernel_rfl⟩
instance : Zero Go.Proofs.Try.prog 7 [.int .i64 0, .int .i64 0, .bool false, .int .u8 0] := ⟨by kernel_rfl⟩
instance : Shape Go.Proofs.Try.prog 7 [.int .i64 0, .int .i64 0, .bool false, .int .u8 0] [(0, 1), (1, 1), (2, 1), (3, 1)] := ⟨.inl fun _ => by kernel_rfl⟩
instance : Aggr Go.Proofs.Try.prog 7 := ⟨by kernel_rfl⟩
instance : Fld Go.Proofs.Try.prog 7 0 0 2 := ⟨by kernel_rfl⟩
instance : Fld Go.Proofs.Try.prog 7 1 1 3 := ⟨by kernel_rfl⟩
instance : Fld Go.Proofs.Try.prog 7 2 2 4 := ⟨by kernel_rfl⟩
instance : Fld Go.Proofs.Try.prog 7 3 3 6 := ⟨by kernel_rfl⟩
instance : Size Go.Proofs.Try.prog 9 1 := ⟨by kernel_rfl⟩
instance : Bytes Go.Proofs.Try.prog 9 16 := ⟨by kernel_rfl⟩
instance : Zero Go.Proofs.Try.prog 9 [.string ByteArray.empty] := ⟨by kernel_rfl⟩
instance : Scal Go.Proofs.Try.prog 9 := ⟨by kernel_rfl⟩
instance : Und Go.Proofs.Try.prog 9 .string := ⟨Go.Proofs.Try.underlying9⟩
instance : Size Go.Proofs.Try.prog 12 1 := ⟨by kernel_rfl⟩
instance : Bytes Go.Proofs.Try.prog 12 8 := ⟨by kernel_rfl⟩
instance : Zero Go.Proofs.Try.prog 12 [.int .u64 0] := ⟨by kernel_rfl⟩
instance : Scal Go.Proofs.Try.prog 12 := ⟨by kernel_rfl⟩
instance : Und Go.Proofs.Try.prog 12 (.int .u64) := ⟨Go.Proofs.Try.underlying12⟩
instance : Size Go.Proofs.Try.prog 13 2 := ⟨by kernel_rfl⟩
instance : Bytes Go.Proofs.Try.prog 13 24 := ⟨by kernel_rfl⟩
instance : Zero Go.Proofs.Try.prog 13 [.string ByteArray.empty, .int .u64 0] := ⟨by kernel_rfl⟩
instance : Shape Go.Proofs.Try.prog 13 [.string ByteArray.empty, .int .u64 0] [(0, 1), (1, 1)] := ⟨.inl fun _ => by kernel_rfl⟩
instance : Aggr Go.Proofs.Try.prog 13 := ⟨by kernel_rfl⟩
instance : Fld Go.Proofs.Try.prog 13 0 0 9 := ⟨by kernel_rfl⟩
instance : Fld Go.Proofs.Try.prog 13 1 1 12 := ⟨by kernel_rfl⟩
instance : Size Go.Proofs.Try.prog 15 1 := ⟨by kernel_rfl⟩
instance : Bytes Go.Proofs.Try.prog 15 8 := ⟨by kernel_rfl⟩
instance : Zero Go.Proofs.Try.prog 15 [.pointer none] := ⟨by kernel_rfl⟩
instance : Scal Go.Proofs.Try.prog 15 := ⟨by kernel_rfl⟩
instance : Und Go.Proofs.Try.prog 15 (.pointer 74) := ⟨Go.Proofs.Try.underlying15⟩
instance : Size Go.Proofs.Try.prog 16 1 := ⟨by kernel_rfl⟩
instance : Bytes Go.Proofs.Try.prog 16 8 := ⟨by kernel_rfl⟩
instance : Zero Go.Proofs.Try.prog 16 [.pointer none] := ⟨by kernel_rfl⟩
instance : Scal Go.Proofs.Try.prog 16 := ⟨by kernel_rfl⟩
instance : Und Go.Proofs.Try.prog 16 (.pointer 77) := ⟨Go.Proofs.Try.underlying16⟩
instance : Size Go.Proofs.Try.prog 17 1 := ⟨by kernel_rfl⟩
instance : Bytes Go.Proofs.Try.prog 17 8 := ⟨by kernel_rfl⟩
instance : Zero Go.Proofs.Try.prog 17 [.pointer none] := ⟨by kernel_rfl⟩
instance : Scal Go.Proofs.Try.prog 17 := ⟨by kernel_rfl⟩
instance : Und Go.Proofs.Try.prog 17 (.pointer 86) := ⟨Go.Proofs.Try.underlying17⟩
instance : Size Go.Proofs.Try.prog 18 1 := ⟨by kernel_rfl⟩
instance : Bytes Go.Proofs.Try.prog 18 8 := ⟨by kernel_rfl⟩
instance : Zero Go.Proofs.Try.prog 18 [.pointer none] := ⟨by kernel_rfl⟩
instance : Shape Go.Proofs.Try.prog 18 [.pointer none] [(0, 1)] := ⟨.inl fun _ => by kernel_rfl⟩
instance : Aggr Go.Proofs.Try.prog 18 := ⟨by kernel_rfl⟩
instance : Fld Go.Proofs.Try.prog 18 0 0 17 := ⟨by kernel_rfl⟩
instance : Size Go.Proofs.Try.prog 20 1 := ⟨by kernel_rfl⟩
instance : Bytes Go.Proofs.Try.prog 20 16 := ⟨by kernel_rfl⟩
instance : Zero Go.Proofs.Try.prog 20 [.nilIface] := ⟨by kernel_rfl⟩
instance : Scal Go.Proofs.Try.prog 20 := ⟨by kernel_rfl⟩
instance : Size Go.Proofs.Try.prog 21 1 := ⟨by kernel_rfl⟩
instance : Bytes Go.Proofs.Try.prog 21 4 := ⟨by kernel_rfl⟩
instance : Zero Go.Proofs.Try.prog 21 [.int .i32 0] := ⟨by kernel_rfl⟩
instance : Scal Go.Proofs.Try.prog 21 := ⟨by kernel_rfl⟩
instance : Und Go.Proofs.Try.prog 21 (.int .i32) := ⟨Go.Proofs.Try.underlying21⟩
instance : Size Go.Proofs.Try.prog 22 1 := ⟨by kernel_rfl⟩
instance : Bytes Go.Proofs.Try.prog 22 24 := ⟨by kernel_rfl⟩
instance : Zero Go.Proofs.Try.prog 22 [.slice none 0 0] := ⟨by kernel_rfl⟩
instance : Scal Go.Proofs.Try.prog 22 := ⟨by kernel_rfl⟩
instance : Und Go.Proofs.Try.prog 22 (.slice 39) := ⟨Go.Proofs.Try.underlying22⟩
instance : Size Go.Proofs.Try.prog 23 1 := ⟨by kernel_rfl⟩
instance : Bytes Go.Proofs.Try.prog 23 8 := ⟨by kernel_rfl⟩
instance : Zero Go.Proofs.Try.prog 23 [.nilFunc] := ⟨by kernel_rfl⟩
instance : Scal Go.Proofs.Try.prog 23 := ⟨by kernel_rfl⟩
instance : Size Go.Proofs.Try.prog 24 1 := ⟨by kernel_rfl⟩
instance : Bytes Go.Proofs.Try.prog 24 8 := ⟨by kernel_rfl⟩
instance : Zero Go.Proofs.Try.prog 24 [.nilFunc] := ⟨by kernel_rfl⟩
instance : Scal Go.Proofs.Try.prog 24 := ⟨by kernel_rfl⟩
instance : Size Go.Proofs.Try.prog 25 1 := ⟨by kernel_rfl⟩
instance : Bytes Go.Proofs.Try.prog 25 8 := ⟨by kernel_rfl⟩
instance : Zero Go.Proofs.Try.prog 25 [.pointer none] := ⟨by kernel_rfl⟩
instance : Scal Go.Proofs.Try.prog 25 := ⟨by kernel_rfl⟩
instance : Und Go.Proofs.Try.prog 25 (.pointer 55) := ⟨Go.Proofs.Try.underlying25⟩
instance : Size Go.Proofs.Try.prog 26 1 := ⟨by kernel_rfl⟩
instance : Bytes Go.Proofs.Try.prog 26 8 := ⟨by kernel_rfl⟩
instance : Zero Go.Proofs.Try.prog 26 [.nilFunc] := ⟨by kernel_rfl⟩
instance : Scal Go.Proofs.Try.prog 26 := ⟨by kernel_rfl⟩
instance : Size Go.Proofs.Try.prog 27 1 := ⟨by kernel_rfl⟩
instance : Bytes Go.Proofs.Try.prog 27 8 := ⟨by kernel_rfl⟩
instance : Zero Go.Proofs.Try.prog 27 [.pointer none] := ⟨by kernel_rfl⟩
instance : Scal Go.Proofs.Try.prog 27 := ⟨by kernel_rfl⟩
instance : Und Go.Proofs.Try.prog 27 (.pointer 30) := ⟨Go.Proofs.Try.underlying27⟩
instance : Size Go.Proofs.Try.prog 28 1 := ⟨by kernel_rfl⟩
instance : Bytes Go.Proofs.Try.prog 28 24 := ⟨by kernel_rfl⟩
instance : Zero Go.Proofs.Try.prog 28 [.slice none 0 0] := ⟨by kernel_rfl⟩
instance : Scal Go.Proofs.Try.prog 28 := ⟨by kernel_rfl⟩
instance : Und Go.Proofs.Try.prog 28 (.slice 58) := ⟨Go.Proofs.Try.underlying28⟩
instance : Size Go.Proofs.Try.prog 29 1 := ⟨by kernel_rfl⟩
instance : Bytes Go.Proofs.Try.prog 29 24 := ⟨by kernel_rfl⟩
instance : Zero Go.Proofs.Try.prog 29 [.slice none 0 0] := ⟨by kernel_rfl⟩
instance : Shape Go.Proofs.Try.prog 29 [.slice none 0 0] [(0, 1)] := ⟨.inl fun _ => by kernel_rfl⟩
instance : Aggr Go.Proofs.Try.prog 29 := ⟨by kernel_rfl⟩
instance : Fld Go.Proofs.Try.prog 29 0 0 28 := ⟨by kernel_rfl⟩
instance : Size Go.Proofs.Try.prog 30 1 := ⟨by kernel_rfl⟩
instance : Bytes Go.Proofs.Try.prog 30 24 := ⟨by kernel_rfl⟩
instance : Zero Go.Proofs.Try.prog 30 [.slice none 0 0] := ⟨by kernel_rfl⟩
instance : Shape Go.Proofs.Try.prog 30 [.slice none 0 0] [(0, 1)] := ⟨.inl fun _ => by kernel_rfl⟩
instance : Aggr Go.Proofs.Try.prog 30 := ⟨by kernel_rfl⟩
instance : Fld Go.Proofs.Try.prog 30 0 0 28 := ⟨by kernel_rfl⟩
instance : Size Go.Proofs.Try.prog 31 3 := ⟨by kernel_rfl⟩
instance : Bytes Go.Proofs.Try.prog 31 32 := ⟨by kernel_rfl⟩
instance : Zero Go.Proofs.Try.prog 31 [.int .i64 0, .int .i64 0, .string ByteArray.empty] := ⟨by kernel_rfl⟩
instance : Shape Go.Proofs.Try.prog 31 [.int .i64 0, .int .i64 0, .string ByteArray.empty] [(0, 1), (1, 1), (2, 1)] := ⟨.inl fun _ => by kernel_rfl⟩
instance : Aggr Go.Proofs.Try.prog 31 := ⟨by kernel_rfl⟩
instance : Fld Go.Proofs.Try.prog 31 0 0 3 := ⟨by kernel_rfl⟩
instance : Fld Go.Proofs.Try.prog 31 1 1 3 := ⟨by kernel_rfl⟩
instance : Fld Go.Proofs.Try.prog 31 2 2 9 := ⟨by kernel_rfl⟩
instance : Size Go.Proofs.Try.prog 32 3 := ⟨by kernel_rfl⟩
instance : Bytes Go.Proofs.Try.prog 32 32 := ⟨by kernel_rfl⟩
instance : Zero Go.Proofs.Try.prog 32 [.int .i64 0, .int .i64 0, .string ByteArray.empty] := ⟨by kernel_rfl⟩
instance : Shape Go.Proofs.Try.prog 32 [.int .i64 0, .int .i64 0, .string ByteArray.empty] [(0, 1), (1, 1), (2, 1)] := ⟨.inl fun _ => by kernel_rfl⟩
instance : Aggr Go.Proofs.Try.prog 32 := ⟨by kernel_rfl⟩
instance : Fld Go.Proofs.Try.prog 32 0 0 3 := ⟨by kernel_rfl⟩
instance : Fld Go.Proofs.Try.prog 32 1 1 3 := ⟨by kernel_rfl⟩
instance : Fld Go.Proofs.Try.prog 32 2 2 9 := ⟨by kernel_rfl⟩
instance : Size Go.Proofs.Try.prog 33 1 := ⟨by kernel_rfl⟩
instance : Bytes Go.Proofs.Try.prog 33 8 := ⟨by kernel_rfl⟩
instance : Zero Go.Proofs.Try.prog 33 [.int .i64 0] := ⟨by kernel_rfl⟩
instance : Scal Go.Proofs.Try.prog 33 := ⟨by kernel_rfl⟩
instance : Und Go.Proofs.Try.prog 33 (.int .i64) := ⟨Go.Proofs.Try.underlying33⟩
instance : Size Go.Proofs.Try.prog 34 6 := ⟨by kernel_rfl⟩
instance : Bytes Go.Proofs.Try.prog 34 48 := ⟨by kernel_rfl⟩
instance : Zero Go.Proofs.Try.prog 34 [.int .i64 0, .int .i64 0, .int .i64 0, .int .i64 0, .int .i64 0, .int .i64 0] := ⟨by kernel_rfl⟩
instance : Shape Go.Proofs.Try.prog 34 [.int .i64 0, .int .i64 0, .int .i64 0, .int .i64 0, .int .i64 0, .int .i64 0] [(0, 1), (1, 1), (2, 1), (3, 1), (4, 1), (5, 1)] := ⟨.inl fun _ => by kernel_rfl⟩
instance : Aggr Go.Proofs.Try.prog 34 := ⟨by kernel_rfl⟩
instance : Fld Go.Proofs.Try.prog 34 0 0 3 := ⟨by kernel_rfl⟩
instance : Fld Go.Proofs.Try.prog 34 1 1 3 := ⟨by kernel_rfl⟩
instance : Fld Go.Proofs.Try.prog 34 2 2 3 := ⟨by kernel_rfl⟩
instance : Fld Go.Proofs.Try.prog 34 3 3 3 := ⟨by kernel_rfl⟩
instance : Fld Go.Proofs.Try.prog 34 4 4 3 := ⟨by kernel_rfl⟩
instance : Fld Go.Proofs.Try.prog 34 5 5 3 := ⟨by kernel_rfl⟩
instance : Size Go.Proofs.Try.prog 35 6 := ⟨by kernel_rfl⟩
instance : Bytes Go.Proofs.Try.prog 35 48 := ⟨by kernel_rfl⟩
instance : Zero Go.Proofs.Try.prog 35 [.int .i64 0, .int .i64 0, .int .i64 0, .int .i64 0, .int .i64 0, .int .i64 0] := ⟨by kernel_rfl⟩
instance : Shape Go.Proofs.Try.prog 35 [.int .i64 0, .int .i64 0, .int .i64 0, .int .i64 0, .int .i64 0, .int .i64 0] [(0, 1), (1, 1), (2, 1), (3, 1), (4, 1), (5, 1)] := ⟨.inl fun _ => by kernel_rfl⟩
instance : Aggr Go.Proofs.Try.prog 35 := ⟨by kernel_rfl⟩
instance : Fld Go.Proofs.Try.prog 35 0 0 3 := ⟨by kernel_rfl⟩
instance : Fld Go.Proofs.Try.prog 35 1 1 3 := ⟨by kernel_rfl⟩
instance : Fld Go.Proofs.Try.prog 35 2 2 3 := ⟨by kernel_rfl⟩
instance : Fld Go.Proofs.Try.prog 35 3 3 3 := ⟨by kernel_rfl⟩
instance : Fld Go.Proofs.Try.prog 35 4 4 3 := ⟨by kernel_rfl⟩
instance : Fld Go.Proofs.Try.prog 35 5 5 3 := ⟨by kernel_rfl⟩
instance : Size Go.Proofs.Try.prog 36 8 := ⟨by kernel_rfl⟩
instance : Bytes Go.Proofs.Try.prog 36 64 := ⟨by kernel_rfl⟩
instance : Zero Go.Proofs.Try.prog 36 [.int .i64 0, .int .i64 0, .int .i64 0, .int .i64 0, .int .i64 0, .int .i64 0, .int .i64 0, .int .i64 0] := ⟨by kernel_rfl⟩
instance : Shape Go.Proofs.Try.prog 36 [.int .i64 0, .int .i64 0, .int .i64 0, .int .i64 0, .int .i64 0, .int .i64 0, .int .i64 0, .int .i64 0] [(0, 1), (1, 1), (2, 6)] := ⟨.inl fun _ => by kernel_rfl⟩
instance : Aggr Go.Proofs.Try.prog 36 := ⟨by kernel_rfl⟩
instance : Fld Go.Proofs.Try.prog 36 0 0 33 := ⟨by kernel_rfl⟩
instance : Fld Go.Proofs.Try.prog 36 1 1 3 := ⟨by kernel_rfl⟩
instance : Fld Go.Proofs.Try.prog 36 2 2 35 := ⟨by kernel_rfl⟩
instance : Size Go.Proofs.Try.prog 37 8 := ⟨by kernel_rfl⟩
instance : Bytes Go.Proofs.Try.prog 37 64 := ⟨by kernel_rfl⟩
instance : Zero Go.Proofs.Try.prog 37 [.int .i64 0, .int .i64 0, .int .i64 0, .int .i64 0, .int .i64 0, .int .i64 0, .int .i64 0, .int .i64 0] := ⟨by kernel_rfl⟩
instance : Shape Go.Proofs.Try.prog 37 [.int .i64 0, .int .i64 0, .int .i64 0, .int .i64 0, .int .i64 0, .int .i64 0, .int .i64 0, .int .i64 0] [(0, 1), (1, 1), (2, 6)] := ⟨.inl fun _ => by kernel_rfl⟩
instance : Aggr Go.Proofs.Try.prog 37 := ⟨by kernel_rfl⟩
instance : Fld Go.Proofs.Try.prog 37 0 0 33 := ⟨by kernel_rfl⟩
instance : Fld Go.Proofs.Try.prog 37 1 1 3 := ⟨by kernel_rfl⟩
instance : Fld Go.Proofs.Try.prog 37 2 2 35 := ⟨by kernel_rfl⟩
instance : Size Go.Proofs.Try.prog 38 14 := ⟨by kernel_rfl⟩
instance : Bytes Go.Proofs.Try.prog 38 120 := ⟨by kernel_rfl⟩
instance : Zero Go.Proofs.Try.prog 38 [.int .i64 0, .int .i64 0, .int .i64 0, .int .i64 0, .int .i64 0, .string ByteArray.empty, .int .i64 0, .int .i64 0, .int .i64 0, .int .i64 0, .int .i64 0, .int .i64 0, .int .i64 0, .int .i64 0] := ⟨by kernel_rfl⟩
instance : Shape Go.Proofs.Try.prog 38 [.int .i64 0, .int .i64 0, .int .i64 0, .int .i64 0, .int .i64 0, .string ByteArray.empty, .int .i64 0, .int .i64 0, .int .i64 0, .int .i64 0, .int .i64 0, .int .i64 0, .int .i64 0, .int .i64 0] [(0, 1), (1, 1), (2, 1), (3, 3), (6, 8)] := ⟨.inl fun _ => by kernel_rfl⟩
instance : Aggr Go.Proofs.Try.prog 38 := ⟨by kernel_rfl⟩
instance : Fld Go.Proofs.Try.prog 38 0 0 3 := ⟨by kernel_rfl⟩
instance : Fld Go.Proofs.Try.prog 38 1 1 3 := ⟨by kernel_rfl⟩
instance : Fld Go.Proofs.Try.prog 38 2 2 3 := ⟨by kernel_rfl⟩
instance : Fld Go.Proofs.Try.prog 38 3 3 32 := ⟨by kernel_rfl⟩
instance : Fld Go.Proofs.Try.prog 38 4 6 37 := ⟨by kernel_rfl⟩
instance : Size Go.Proofs.Try.prog 39 14 := ⟨by kernel_rfl⟩
instance : Bytes Go.Proofs.Try.prog 39 120 := ⟨by kernel_rfl⟩
instance : Zero Go.Proofs.Try.prog 39 [.int .i64 0, .int .i64 0, .int .i64 0, .int .i64 0, .int .i64 0, .string ByteArray.empty, .int .i64 0, .int .i64 0, .int .i64 0, .int .i64 0, .int .i64 0, .int .i64 0, .int .i64 0, .int .i64 0] := ⟨by kernel_rfl⟩
instance : Shape Go.Proofs.Try.prog 39 [.int .i64 0, .int .i64 0, .int .i64 0, .int .i64 0, .int .i64 0, .string ByteArray.empty, .int .i64 0, .int .i64 0, .int .i64 0, .int .i64 0, .int .i64 0, .int .i64 0, .int .i64 0, .int .i64 0] [(0, 1), (1, 1), (2, 1), (3, 3), (6, 8)] := ⟨.inl fun _ => by kernel_rfl⟩
instance : Aggr Go.Proofs.Try.prog 39 := ⟨by kernel_rfl⟩
instance : Fld Go.Proofs.Try.prog 39 0 0 3 := ⟨by kernel_rfl⟩
instance : Fld Go.Proofs.Try.prog 39 1 1 3 := ⟨by kernel_rfl⟩
instance : Fld Go.Proofs.Try.prog 39 2 2 3 := ⟨by kernel_rfl⟩
instance : Fld Go.Proofs.Try.prog 39 3 3 32 := ⟨by kernel_rfl⟩
instance : Fld Go.Proofs.Try.prog 39 4 6 37 := ⟨by kernel_rfl⟩
instance : Size Go.Proofs.Try.prog 41 1 := ⟨by kernel_rfl⟩
instance : Bytes Go.Proofs.Try.prog 41 8 := ⟨by kernel_rfl⟩
instance : Zero Go.Proofs.Try.prog 41 [.nilFunc] := ⟨by kernel_rfl⟩
instance : Scal Go.Proofs.Try.prog 41 := ⟨by kernel_rfl⟩
instance : Size Go.Proofs.Try.prog 42 1 := ⟨by kernel_rfl⟩
instance : Bytes Go.Proofs.Try.prog 42 8 := ⟨by kernel_rfl⟩
instance : Zero Go.Proofs.Try.prog 42 [.nilFunc] := ⟨by kernel_rfl⟩
instance : Scal Go.Proofs.Try.prog 42 := ⟨by kernel_rfl⟩
instance : Size Go.Proofs.Try.prog 43 1 := ⟨by kernel_rfl⟩
instance : Bytes Go.Proofs.Try.prog 43 8 := ⟨by kernel_rfl⟩
instance : Zero Go.Proofs.Try.prog 43 [.nilFunc] := ⟨by kernel_rfl⟩
instance : Scal Go.Proofs.Try.prog 43 := ⟨by kernel_rfl⟩
instance : Size Go.Proofs.Try.prog 44 1 := ⟨by kernel_rfl⟩
instance : Bytes Go.Proofs.Try.prog 44 8 := ⟨by kernel_rfl⟩
instance : Zero Go.Proofs.Try.prog 44 [.nilFunc] := ⟨by kernel_rfl⟩
instance : Scal Go.Proofs.Try.prog 44 := ⟨by kernel_rfl⟩
instance : Size Go.Proofs.Try.prog 45 1 := ⟨by kernel_rfl⟩
instance : Bytes Go.Proofs.Try.prog 45 8 := ⟨by kernel_rfl⟩
instance : Zero Go.Proofs.Try.prog 45 [.nilFunc] := ⟨by kernel_rfl⟩
instance : Scal Go.Proofs.Try.prog 45 := ⟨by kernel_rfl⟩
instance : Size Go.Proofs.Try.prog 46 1 := ⟨by kernel_rfl⟩
instance : Bytes Go.Proofs.Try.prog 46 8 := ⟨by kernel_rfl⟩
instance : Zero Go.Proofs.Try.prog 46 [.nilFunc] := ⟨by kernel_rfl⟩
instance : Scal Go.Proofs.Try.prog 46 := ⟨by kernel_rfl⟩
instance : Size Go.Proofs.Try.prog 47 1 := ⟨by kernel_rfl⟩
instance : Bytes Go.Proofs.Try.prog 47 8 := ⟨by kernel_rfl⟩
instance : Zero Go.Proofs.Try.prog 47 [.nilFunc] := ⟨by kernel_rfl⟩
instance : Scal Go.Proofs.Try.prog 47 := ⟨by kernel_rfl⟩
instance : Size Go.Proofs.Try.prog 48 1 := ⟨by kernel_rfl⟩
instance : Bytes Go.Proofs.Try.prog 48 8 := ⟨by kernel_rfl⟩
instance : Zero Go.Proofs.Try.prog 48 [.nilFunc] := ⟨by kernel_rfl⟩
instance : Scal Go.Proofs.Try.prog 48 := ⟨by kernel_rfl⟩
instance : Size Go.Proofs.Try.prog 49 1 := ⟨by kernel_rfl⟩
instance : Bytes Go.Proofs.Try.prog 49 8 := ⟨by kernel_rfl⟩
instance : Zero Go.Proofs.Try.prog 49 [.nilFunc] := ⟨by kernel_rfl⟩
instance : Scal Go.Proofs.Try.prog 49 := ⟨by kernel_rfl⟩
instance : Size Go.Proofs.Try.prog 50 1 := ⟨by kernel_rfl⟩
instance : Bytes Go.Proofs.Try.prog 50 24 := ⟨by kernel_rfl⟩
instance : Zero Go.Proofs.Try.prog 50 [.slice none 0 0] := ⟨by kernel_rfl⟩
instance : Scal Go.Proofs.Try.prog 50 := ⟨by kernel_rfl⟩
instance : Und Go.Proofs.Try.prog 50 (.slice 3) := ⟨Go.Proofs.Try.underlying50⟩
instance : Size Go.Proofs.Try.prog 51 1 := ⟨by kernel_rfl⟩
instance : Bytes Go.Proofs.Try.prog 51 8 := ⟨by kernel_rfl⟩
instance : Zero Go.Proofs.Try.prog 51 [.nilFunc] := ⟨by kernel_rfl⟩
instance : Scal Go.Proofs.Try.prog 51 := ⟨by kernel_rfl⟩
instance : Size Go.Proofs.Try.prog 52 1 := ⟨by kernel_rfl⟩
instance : Bytes Go.Proofs.Try.prog 52 24 := ⟨by kernel_rfl⟩
instance : Zero Go.Proofs.Try.prog 52 [.slice none 0 0] := ⟨by kernel_rfl⟩
instance : Scal Go.Proofs.Try.prog 52 := ⟨by kernel_rfl⟩
instance : Und Go.Proofs.Try.prog 52 (.slice 61) := ⟨Go.Proofs.Try.underlying52⟩
instance : Size Go.Proofs.Try.prog 53 1 := ⟨by kernel_rfl⟩
instance : Bytes Go.Proofs.Try.prog 53 8 := ⟨by kernel_rfl⟩
instance : Zero Go.Proofs.Try.prog 53 [.map none] := ⟨by kernel_rfl⟩
instance : Scal Go.Proofs.Try.prog 53 := ⟨by kernel_rfl⟩
instance : Und Go.Proofs.Try.prog 53 (.map 3 3) := ⟨Go.Proofs.Try.underlying53⟩
instance : Size Go.Proofs.Try.prog 54 3 := ⟨by kernel_rfl⟩
instance : Bytes Go.Proofs.Try.prog 54 56 := ⟨by kernel_rfl⟩
instance : Zero Go.Proofs.Try.prog 54 [.slice none 0 0, .slice none 0 0, .map none] := ⟨by kernel_rfl⟩
instance : Shape Go.Proofs.Try.prog 54 [.slice none 0 0, .slice none 0 0, .map none] [(0, 1), (1, 1), (2, 1)] := ⟨.inl fun _ => by kernel_rfl⟩
instance : Aggr Go.Proofs.Try.prog 54 := ⟨by kernel_rfl⟩
instance : Fld Go.Proofs.Try.prog 54 0 0 28 := ⟨by kernel_rfl⟩
instance : Fld Go.Proofs.Try.prog 54 1 1 52 := ⟨by kernel_rfl⟩
instance : Fld Go.Proofs.Try.prog 54 2 2 53 := ⟨by kernel_rfl⟩
instance : Size Go.Proofs.Try.prog 55 3 := ⟨by kernel_rfl⟩
instance : Bytes Go.Proofs.Try.prog 55 56 := ⟨by kernel_rfl⟩
instance : Zero Go.Proofs.Try.prog 55 [.slice none 0 0, .slice none 0 0, .map none] := ⟨by kernel_rfl⟩
instance : Shape Go.Proofs.Try.prog 55 [.slice none 0 0, .slice none 0 0, .map none] [(0, 1), (1, 1), (2, 1)] := ⟨.inl fun _ => by kernel_rfl⟩
instance : Aggr Go.Proofs.Try.prog 55 := ⟨by kernel_rfl⟩
instance : Fld Go.Proofs.Try.prog 55 0 0 28 := ⟨by kernel_rfl⟩
instance : Fld Go.Proofs.Try.prog 55 1 1 52 := ⟨by kernel_rfl⟩
instance : Fld Go.Proofs.Try.prog 55 2 2 53 := ⟨by kernel_rfl⟩
instance : Size Go.Proofs.Try.prog 56 1 := ⟨by kernel_rfl⟩
instance : Bytes Go.Proofs.Try.prog 56 8 := ⟨by kernel_rfl⟩
instance : Zero Go.Proofs.Try.prog 56 [.nilFunc] := ⟨by kernel_rfl⟩
instance : Scal Go.Proofs.Try.prog 56 := ⟨by kernel_rfl⟩
instance : Size Go.Proofs.Try.prog 57 14 := ⟨by kernel_rfl⟩
instance : Bytes Go.Proofs.Try.prog 57 120 := ⟨by kernel_rfl⟩
instance : Zero Go.Proofs.Try.prog 57 [.int .i64 0, .int .i64 0, .int .i64 0, .int .i64 0, .int .i64 0, .string ByteArray.empty, .int .i64 0, .int .i64 0, .int .i64 0, .int .i64 0, .int .i64 0, .int .i64 0, .int .i64 0, .int .i64 0] := ⟨by kernel_rfl⟩
instance : Shape Go.Proofs.Try.prog 57 [.int .i64 0, .int .i64 0, .int .i64 0, .int .i64 0, .int .i64 0, .string ByteArray.empty, .int .i64 0, .int .i64 0, .int .i64 0, .int .i64 0, .int .i64 0, .int .i64 0, .int .i64 0, .int .i64 0] [(0, 1), (1, 1), (2, 1), (3, 3), (6, 8)] := ⟨.inl fun _ => by kernel_rfl⟩
instance : Aggr Go.Proofs.Try.prog 57 := ⟨by kernel_rfl⟩
instance : Fld Go.Proofs.Try.prog 57 0 0 3 := ⟨by kernel_rfl⟩
instance : Fld Go.Proofs.Try.prog 57 1 1 3 := ⟨by kernel_rfl⟩
instance : Fld Go.Proofs.Try.prog 57 2 2 3 := ⟨by kernel_rfl⟩
instance : Fld Go.Proofs.Try.prog 57 3 3 32 := ⟨by kernel_rfl⟩
instance : Fld Go.Proofs.Try.prog 57 4 6 37 := ⟨by kernel_rfl⟩
instance : Size Go.Proofs.Try.prog 58 14 := ⟨by kernel_rfl⟩
instance : Bytes Go.Proofs.Try.prog 58 120 := ⟨by kernel_rfl⟩
instance : Zero Go.Proofs.Try.prog 58 [.int .i64 0, .int .i64 0, .int .i64 0, .int .i64 0, .int .i64 0, .string ByteArray.empty, .int .i64 0, .int .i64 0, .int .i64 0, .int .i64 0, .int .i64 0, .int .i64 0, .int .i64 0, .int .i64 0] := ⟨by kernel_rfl⟩
instance : Shape Go.Proofs.Try.prog 58 [.int .i64 0, .int .i64 0, .int .i64 0, .int .i64 0, .int .i64 0, .string ByteArray.empty, .int .i64 0, .int .i64 0, .int .i64 0, .int .i64 0, .int .i64 0, .int .i64 0, .int .i64 0, .int .i64 0] [(0, 1), (1, 1), (2, 1), (3, 3), (6, 8)] := ⟨.inl fun _ => by kernel_rfl⟩
instance : Aggr Go.Proofs.Try.prog 58 := ⟨by kernel_rfl⟩
instance : Fld Go.Proofs.Try.prog 58 0 0 3 := ⟨by kernel_rfl⟩
instance : Fld Go.Proofs.Try.prog 58 1 1 3 := ⟨by kernel_rfl⟩
instance : Fld Go.Proofs.Try.prog 58 2 2 3 := ⟨by kernel_rfl⟩
instance : Fld Go.Proofs.Try.prog 58 3 3 32 := ⟨by kernel_rfl⟩
instance : Fld Go.Proofs.Try.prog 58 4 6 37 := ⟨by kernel_rfl⟩
instance : Size Go.Proofs.Try.prog 59 1 := ⟨by kernel_rfl⟩
instance : Bytes Go.Proofs.Try.prog 59 8 := ⟨by kernel_rfl⟩
instance : Zero Go.Proofs.Try.prog 59 [.nilFunc] := ⟨by kernel_rfl⟩
instance : Scal Go.Proofs.Try.prog 59 := ⟨by kernel_rfl⟩
instance : Size Go.Proofs.Try.prog 60 13 := ⟨by kernel_rfl⟩
instance : Bytes Go.Proofs.Try.prog 60 112 := ⟨by kernel_rfl⟩
instance : Zero Go.Proofs.Try.prog 60 [.int .i64 0, .int .i64 0, .int .i64 0, .string ByteArray.empty, .int .i64 0, .int .i64 0, .int .i64 0, .int .i64 0, .int .i64 0, .int .i64 0, .int .i64 0, .int .i64 0, .int .i64 0] := ⟨by kernel_rfl⟩
instance : Shape Go.Proofs.Try.prog 60 [.int .i64 0, .int .i64 0, .int .i64 0, .string ByteArray.empty, .int .i64 0, .int .i64 0, .int .i64 0, .int .i64 0, .int .i64 0, .int .i64 0, .int .i64 0, .int .i64 0, .int .i64 0] [(0, 1), (1, 3), (4, 8), (12, 1)] := ⟨.inl fun _ => by kernel_rfl⟩
instance : Aggr Go.Proofs.Try.prog 60 := ⟨by kernel_rfl⟩
instance : Fld Go.Proofs.Try.prog 60 0 0 3 := ⟨by kernel_rfl⟩
instance : Fld Go.Proofs.Try.prog 60 1 1 32 := ⟨by kernel_rfl⟩
instance : Fld Go.Proofs.Try.prog 60 2 4 37 := ⟨by kernel_rfl⟩
instance : Fld Go.Proofs.Try.prog 60 3 12 3 := ⟨by kernel_rfl⟩
instance : Size Go.Proofs.Try.prog 61 13 := ⟨by kernel_rfl⟩
instance : Bytes Go.Proofs.Try.prog 61 112 := ⟨by kernel_rfl⟩
instance : Zero Go.Proofs.Try.prog 61 [.int .i64 0, .int .i64 0, .int .i64 0, .string ByteArray.empty, .int .i64 0, .int .i64 0, .int .i64 0, .int .i64 0, .int .i64 0, .int .i64 0, .int .i64 0, .int .i64 0, .int .i64 0] := ⟨by kernel_rfl⟩
instance : Shape Go.Proofs.Try.prog 61 [.int .i64 0, .int .i64 0, .int .i64 0, .string ByteArray.empty, .int .i64 0, .int .i64 0, .int .i64 0, .int .i64 0, .int .i64 0, .int .i64 0, .int .i64 0, .int .i64 0, .int .i64 0] [(0, 1), (1, 3), (4, 8), (12, 1)] := ⟨.inl fun _ => by kernel_rfl⟩
instance : Aggr Go.Proofs.Try.prog 61 := ⟨by kernel_rfl⟩
instance : Fld Go.Proofs.Try.prog 61 0 0 3 := ⟨by kernel_rfl⟩
instance : Fld Go.Proofs.Try.prog 61 1 1 32 := ⟨by kernel_rfl⟩
instance : Fld Go.Proofs.Try.prog 61 2 4 37 := ⟨by kernel_rfl⟩
instance : Fld Go.Proofs.Try.prog 61 3 12 3 := ⟨by kernel_rfl⟩
instance : Size Go.Proofs.Try.prog 62 1 := ⟨by kernel_rfl⟩
instance : Bytes Go.Proofs.Try.prog 62 8 := ⟨by kernel_rfl⟩
instance : Zero Go.Proofs.Try.prog 62 [.nilFunc] := ⟨by kernel_rfl⟩
instance : Scal Go.Proofs.Try.prog 62 := ⟨by kernel_rfl⟩
instance : Size Go.Proofs.Try.prog 63 1 := ⟨by kernel_rfl⟩
instance : Bytes Go.Proofs.Try.prog 63 8 := ⟨by kernel_rfl⟩
instance : Zero Go.Proofs.Try.prog 63 [.nilFunc] := ⟨by kernel_rfl⟩
instance : Scal Go.Proofs.Try.prog 63 := ⟨by kernel_rfl⟩
instance : Size Go.Proofs.Try.prog 64 1 := ⟨by kernel_rfl⟩
instance : Bytes Go.Proofs.Try.prog 64 8 := ⟨by kernel_rfl⟩
instance : Zero Go.Proofs.Try.prog 64 [.pointer none] := ⟨by kernel_rfl⟩
instance : Scal Go.Proofs.Try.prog 64 := ⟨by kernel_rfl⟩
instance : Und Go.Proofs.Try.prog 64 (.pointer 61) := ⟨Go.Proofs.Try.underlying64⟩
instance : Size Go.Proofs.Try.prog 66 1 := ⟨by kernel_rfl⟩
instance : Bytes Go.Proofs.Try.prog 66 8 := ⟨by kernel_rfl⟩
instance : Zero Go.Proofs.Try.prog 66 [.nilFunc] := ⟨by kernel_rfl⟩
instance : Scal Go.Proofs.Try.prog 66 := ⟨by kernel_rfl⟩
instance : Size Go.Proofs.Try.prog 67 1 := ⟨by kernel_rfl⟩
instance : Bytes Go.Proofs.Try.prog 67 8 := ⟨by kernel_rfl⟩
instance : Zero Go.Proofs.Try.prog 67 [.nilFunc] := ⟨by kernel_rfl⟩
instance : Scal Go.Proofs.Try.prog 67 := ⟨by kernel_rfl⟩
instance : Size Go.Proofs.Try.prog 68 1 := ⟨by kernel_rfl⟩
instance : Bytes Go.Proofs.Try.prog 68 8 := ⟨by kernel_rfl⟩
instance : Zero Go.Proofs.Try.prog 68 [.nilFunc] := ⟨by kernel_rfl⟩
instance : Scal Go.Proofs.Try.prog 68 := ⟨by kernel_rfl⟩
instance : Size Go.Proofs.Try.prog 69 1 := ⟨by kernel_rfl⟩
instance : Bytes Go.Proofs.Try.prog 69 8 := ⟨by kernel_rfl⟩
instance : Zero Go.Proofs.Try.prog 69 [.nilFunc] := ⟨by kernel_rfl⟩
instance : Scal Go.Proofs.Try.prog 69 := ⟨by kernel_rfl⟩
instance : Size Go.Proofs.Try.prog 70 1 := ⟨by kernel_rfl⟩
instance : Bytes Go.Proofs.Try.prog 70 8 := ⟨by kernel_rfl⟩
instance : Zero Go.Proofs.Try.prog 70 [.nilFunc] := ⟨by kernel_rfl⟩
instance : Scal Go.Proofs.Try.prog 70 := ⟨by kernel_rfl⟩
instance : Size Go.Proofs.Try.prog 71 1 := ⟨by kernel_rfl⟩
instance : Bytes Go.Proofs.Try.prog 71 8 := ⟨by kernel_rfl⟩
instance : Zero Go.Proofs.Try.prog 71 [.nilFunc] := ⟨by kernel_rfl⟩
instance : Scal Go.Proofs.Try.prog 71 := ⟨by kernel_rfl⟩
instance : Size Go.Proofs.Try.prog 72 1 := ⟨by kernel_rfl⟩
instance : Bytes Go.Proofs.Try.prog 72 8 := ⟨by kernel_rfl⟩
instance : Zero Go.Proofs.Try.prog 72 [.nilFunc] := ⟨by kernel_rfl⟩
instance : Scal Go.Proofs.Try.prog 72 := ⟨by kernel_rfl⟩
instance : Size Go.Proofs.Try.prog 73 4 := ⟨by kernel_rfl⟩
instance : Bytes Go.Proofs.Try.prog 73 40 := ⟨by kernel_rfl⟩
instance : Zero Go.Proofs.Try.prog 73 [.pointer none, .pointer none, .pointer none, .string ByteArray.empty] := ⟨by kernel_rfl⟩
instance : Shape Go.Proofs.Try.prog 73 [.pointer none, .pointer none, .pointer none, .string ByteArray.empty] [(0, 1), (1, 1), (2, 1), (3, 1)] := ⟨.inl fun _ => by kernel_rfl⟩
instance : Aggr Go.Proofs.Try.prog 73 := ⟨by kernel_rfl⟩
instance : Fld Go.Proofs.Try.prog 73 0 0 17 := ⟨by kernel_rfl⟩
instance : Fld Go.Proofs.Try.prog 73 1 1 17 := ⟨by kernel_rfl⟩
instance : Fld Go.Proofs.Try.prog 73 2 2 17 := ⟨by kernel_rfl⟩
instance : Fld Go.Proofs.Try.prog 73 3 3 9 := ⟨by kernel_rfl⟩
instance : Size Go.Proofs.Try.prog 75 0 := ⟨by kernel_rfl⟩
instance : Bytes Go.Proofs.Try.prog 75 0 := ⟨by kernel_rfl⟩
instance : Zero Go.Proofs.Try.prog 75 [] := ⟨by kernel_rfl⟩
instance : Shape Go.Proofs.Try.prog 75 [] [] := ⟨.inr ⟨1, by decide, fun _ => by kernel_rfl⟩⟩
instance : Aggr Go.Proofs.Try.prog 75 := ⟨by kernel_rfl⟩
instance : Und Go.Proofs.Try.prog 75 (.array 0 16) := ⟨Go.Proofs.Try.underlying75⟩
instance : Size Go.Proofs.Try.prog 76 0 := ⟨by kernel_rfl⟩
instance : Bytes Go.Proofs.Try.prog 76 0 := ⟨by kernel_rfl⟩
instance : Zero Go.Proofs.Try.prog 76 [] := ⟨by kernel_rfl⟩
instance : Shape Go.Proofs.Try.prog 76 [] [(0, 0)] := ⟨.inl fun _ => by kernel_rfl⟩
instance : Aggr Go.Proofs.Try.prog 76 := ⟨by kernel_rfl⟩
instance : Fld Go.Proofs.Try.prog 76 0 0 75 := ⟨by kernel_rfl⟩
instance : Size Go.Proofs.Try.prog 78 1 := ⟨by kernel_rfl⟩
instance : Bytes Go.Proofs.Try.prog 78 4 := ⟨by kernel_rfl⟩
instance : Zero Go.Proofs.Try.prog 78 [.int .u32 0] := ⟨by kernel_rfl⟩
instance : Scal Go.Proofs.Try.prog 78 := ⟨by kernel_rfl⟩
instance : Und Go.Proofs.Try.prog 78 (.int .u32) := ⟨Go.Proofs.Try.underlying78⟩
instance : Size Go.Proofs.Try.prog 81 1 := ⟨by kernel_rfl⟩
instance : Bytes Go.Proofs.Try.prog 81 8 := ⟨by kernel_rfl⟩
instance : Zero Go.Proofs.Try.prog 81 [.nilFunc] := ⟨by kernel_rfl⟩
instance : Scal Go.Proofs.Try.prog 81 := ⟨by kernel_rfl⟩
instance : Size Go.Proofs.Try.prog 82 1 := ⟨by kernel_rfl⟩
instance : Bytes Go.Proofs.Try.prog 82 8 := ⟨by kernel_rfl⟩
instance : Zero Go.Proofs.Try.prog 82 [.pointer none] := ⟨by kernel_rfl⟩
instance : Scal Go.Proofs.Try.prog 82 := ⟨by kernel_rfl⟩
instance : Und Go.Proofs.Try.prog 82 (.pointer 5) := ⟨Go.Proofs.Try.underlying82⟩
instance : Size Go.Proofs.Try.prog 85 11 := ⟨by kernel_rfl⟩
instance : Bytes Go.Proofs.Try.prog 85 48 := ⟨by kernel_rfl⟩
instance : Zero Go.Proofs.Try.prog 85 [.int .u64 0, .int .u64 0, .int .u32 0, .int .u8 0, .int .u8 0, .int .u8 0, .int .u8 0, .nilFunc, .pointer none, .int .i32 0, .int .i32 0] := ⟨by kernel_rfl⟩
instance : Shape Go.Proofs.Try.prog 85 [.int .u64 0, .int .u64 0, .int .u32 0, .int .u8 0, .int .u8 0, .int .u8 0, .int .u8 0, .nilFunc, .pointer none, .int .i32 0, .int .i32 0] [(0, 1), (1, 1), (2, 1), (3, 1), (4, 1), (5, 1), (6, 1), (7, 1), (8, 1), (9, 1), (10, 1)] := ⟨.inl fun _ => by kernel_rfl⟩
instance : Aggr Go.Proofs.Try.prog 85 := ⟨by kernel_rfl⟩
instance : Fld Go.Proofs.Try.prog 85 0 0 12 := ⟨by kernel_rfl⟩
instance : Fld Go.Proofs.Try.prog 85 1 1 12 := ⟨by kernel_rfl⟩
instance : Fld Go.Proofs.Try.prog 85 2 2 78 := ⟨by kernel_rfl⟩
instance : Fld Go.Proofs.Try.prog 85 3 3 79 := ⟨by kernel_rfl⟩
instance : Fld Go.Proofs.Try.prog 85 4 4 5 := ⟨by kernel_rfl⟩
instance : Fld Go.Proofs.Try.prog 85 5 5 5 := ⟨by kernel_rfl⟩
instance : Fld Go.Proofs.Try.prog 85 6 6 80 := ⟨by kernel_rfl⟩
instance : Fld Go.Proofs.Try.prog 85 7 7 81 := ⟨by kernel_rfl⟩
instance : Fld Go.Proofs.Try.prog 85 8 8 82 := ⟨by kernel_rfl⟩
instance : Fld Go.Proofs.Try.prog 85 9 9 83 := ⟨by kernel_rfl⟩
instance : Fld Go.Proofs.Try.prog 85 10 10 84 := ⟨by kernel_rfl⟩
instance : Size Go.Proofs.Try.prog 87 1 := ⟨by kernel_rfl⟩
instance : Bytes Go.Proofs.Try.prog 87 8 := ⟨by kernel_rfl⟩
instance : Zero Go.Proofs.Try.prog 87 [.pointer none] := ⟨by kernel_rfl⟩
instance : Scal Go.Proofs.Try.prog 87 := ⟨by kernel_rfl⟩
theorem eqk2 : EqK Go.Proofs.Try.prog 2 false [.int] 1 := EqK.int
theorem eqk3 : EqK Go.Proofs.Try.prog 3 false [.int] 1 := EqK.int
theorem eqk4 : EqK Go.Proofs.Try.prog 4 false [.bool] 1 := EqK.bool
theorem eqk5 : EqK Go.Proofs.Try.prog 5 false [.int] 1 := EqK.int
theorem eqk9 : EqK Go.Proofs.Try.prog 9 false [.str] 1 := EqK.string
theorem eqk12 : EqK Go.Proofs.Try.prog 12 false [.int] 1 := EqK.int
theorem eqk21 : EqK Go.Proofs.Try.prog 21 false [.int] 1 := EqK.int
theorem eqk31 : EqK Go.Proofs.Try.prog 31 true [.int, .int, .str] 2 := by
  refine EqK.struct (ks := [.int, .int, .str]) (dep := 1) Go.Proofs.Try.underlying31 (by kernel_rfl) rfl ?_
  refine EqF.cons (ks := [.int]) (ks' := [.int, .str]) (by decide) rfl eqk3 (by decide) ?_
  refine EqF.cons (ks := [.int]) (ks' := [.str]) (by decide) rfl eqk3 (by decide) ?_
  refine EqF.cons (ks := [.str]) (ks' := []) (by decide) rfl eqk9 (by decide) ?_
  exact EqF.nil
instance : EqT Go.Proofs.Try.prog 31 [.int, .int, .str] := ⟨by kernel_rfl, 2, by decide, eqk31⟩
theorem eqk32 : EqK Go.Proofs.Try.prog 32 true [.int, .int, .str] 2 := by
  refine EqK.struct (ks := [.int, .int, .str]) (dep := 1) Go.Proofs.Try.underlying32 (by kernel_rfl) rfl ?_
  refine EqF.cons (ks := [.int]) (ks' := [.int, .str]) (by decide) rfl eqk3 (by decide) ?_
  refine EqF.cons (ks := [.int]) (ks' := [.str]) (by decide) rfl eqk3 (by decide) ?_
  refine EqF.cons (ks := [.str]) (ks' := []) (by decide) rfl eqk9 (by decide) ?_
  exact EqF.nil
instance : EqT Go.Proofs.Try.prog 32 [.int, .int, .str] := ⟨by kernel_rfl, 2, by decide, eqk32⟩
theorem eqk33 : EqK Go.Proofs.Try.prog 33 false [.int] 1 := EqK.int
theorem eqk34 : EqK Go.Proofs.Try.prog 34 true [.int, .int, .int, .int, .int, .int] 2 := by
  refine EqK.struct (ks := [.int, .int, .int, .int, .int, .int]) (dep := 1) Go.Proofs.Try.underlying34 (by kernel_rfl) rfl ?_
  refine EqF.cons (ks := [.int]) (ks' := [.int, .int, .int, .int, .int]) (by decide) rfl eqk3 (by decide) ?_
  refine EqF.cons (ks := [.int]) (ks' := [.int, .int, .int, .int]) (by decide) rfl eqk3 (by decide) ?_
  refine EqF.cons (ks := [.int]) (ks' := [.int, .int, .int]) (by decide) rfl eqk3 (by decide) ?_
  refine EqF.cons (ks := [.int]) (ks' := [.int, .int]) (by decide) rfl eqk3 (by decide) ?_
  refine EqF.cons (ks := [.int]) (ks' := [.int]) (by decide) rfl eqk3 (by decide) ?_
  refine EqF.cons (ks := [.int]) (ks' := []) (by decide) rfl eqk3 (by decide) ?_
  exact EqF.nil
instance : EqT Go.Proofs.Try.prog 34 [.int, .int, .int, .int, .int, .int] := ⟨by kernel_rfl, 2, by decide, eqk34⟩
theorem eqk35 : EqK Go.Proofs.Try.prog 35 true [.int, .int, .int, .int, .int, .int] 2 := by
  refine EqK.struct (ks := [.int, .int, .int, .int, .int, .int]) (dep := 1) Go.Proofs.Try.underlying35 (by kernel_rfl) rfl ?_
  refine EqF.cons (ks := [.int]) (ks' := [.int, .int, .int, .int, .int]) (by decide) rfl eqk3 (by decide) ?_
  refine EqF.cons (ks := [.int]) (ks' := [.int, .int, .int, .int]) (by decide) rfl eqk3 (by decide) ?_
  refine EqF.cons (ks := [.int]) (ks' := [.int, .int, .int]) (by decide) rfl eqk3 (by decide) ?_
  refine EqF.cons (ks := [.int]) (ks' := [.int, .int]) (by decide) rfl eqk3 (by decide) ?_
  refine EqF.cons (ks := [.int]) (ks' := [.int]) (by decide) rfl eqk3 (by decide) ?_
  refine EqF.cons (ks := [.int]) (ks' := []) (by decide) rfl eqk3 (by decide) ?_
  exact EqF.nil
instance : EqT Go.Proofs.Try.prog 35 [.int, .int, .int, .int, .int, .int] := ⟨by kernel_rfl, 2, by decide, eqk35⟩
theorem eqk36 : EqK Go.Proofs.Try.prog 36 true [.int, .int, .int, .int, .int, .int, .int, .int] 3 := by
  refine EqK.struct (ks := [.int, .int, .int, .int, .int, .int, .int, .int]) (dep := 2) Go.Proofs.Try.underlying36 (by kernel_rfl) rfl ?_
  refine EqF.cons (ks := [.int]) (ks' := [.int, .int, .int, .int, .int, .int, .int]) (by decide) rfl eqk33 (by decide) ?_
  refine EqF.cons (ks := [.int]) (ks' := [.int, .int, .int, .int, .int, .int]) (by decide) rfl eqk3 (by decide) ?_
  refine EqF.cons (ks := [.int, .int, .int, .int, .int, .int]) (ks' := []) (by decide) rfl eqk35 (by decide) ?_
  exact EqF.nil
instance : EqT Go.Proofs.Try.prog 36 [.int, .int, .int, .int, .int, .int, .int, .int] := ⟨by kernel_rfl, 3, by decide, eqk36⟩
theorem eqk37 : EqK Go.Proofs.Try.prog 37 true [.int, .int, .int, .int, .int, .int, .int, .int] 3 := by
  refine EqK.struct (ks := [.int, .int, .int, .int, .int, .int, .int, .int]) (dep := 2) Go.Proofs.Try.underlying37 (by kernel_rfl) rfl ?_
  refine EqF.cons (ks := [.int]) (ks' := [.int, .int, .int, .int, .int, .int, .int]) (by decide) rfl eqk33 (by decide) ?_
  refine EqF.cons (ks := [.int]) (ks' := [.int, .int, .int, .int, .int, .int]) (by decide) rfl eqk3 (by decide) ?_
  refine EqF.cons (ks := [.int, .int, .int, .int, .int, .int]) (ks' := []) (by decide) rfl eqk35 (by decide) ?_
  exact EqF.nil
instance : EqT Go.Proofs.Try.prog 37 [.int, .int, .int, .int, .int, .int, .int, .int] := ⟨by kernel_rfl, 3, by decide, eqk37⟩
theorem eqk38 : EqK Go.Proofs.Try.prog 38 true [.int, .int, .int, .int, .int, .str, .int, .int, .int, .int, .int, .int, .int, .int] 4 := by
  refine EqK.struct (ks := [.int, .int, .int, .int, .int, .str, .int, .int, .int, .int, .int, .int, .int, .int]) (dep := 3) Go.Proofs.Try.underlying38 (by kernel_rfl) rfl ?_
  refine EqF.cons (ks := [.int]) (ks' := [.int, .int, .int, .int, .str, .int, .int, .int, .int, .int, .int, .int, .int]) (by decide) rfl eqk3 (by decide) ?_
  refine EqF.cons (ks := [.int]) (ks' := [.int, .int, .int, .str, .int, .int, .int, .int, .int, .int, .int, .int]) (by decide) rfl eqk3 (by decide) ?_
  refine EqF.cons (ks := [.int]) (ks' := [.int, .int, .str, .int, .int, .int, .int, .int, .int, .int, .int]) (by decide) rfl eqk3 (by decide) ?_
  refine EqF.cons (ks := [.int, .int, .str]) (ks' := [.int, .int, .int, .int, .int, .int, .int, .int]) (by decide) rfl eqk32 (by decide) ?_
  refine EqF.cons (ks := [.int, .int, .int, .int, .int, .int, .int, .int]) (ks' := []) (by decide) rfl eqk37 (by decide) ?_
  exact EqF.nil
instance : EqT Go.Proofs.Try.prog 38 [.int, .int, .int, .int, .int, .str, .int, .int, .int, .int, .int, .int, .int, .int] := ⟨by kernel_rfl, 4, by decide, eqk38⟩
theorem eqk39 : EqK Go.Proofs.Try.prog 39 true [.int, .int, .int, .int, .int, .str, .int, .int, .int, .int, .int, .int, .int, .int] 4 := by
  refine EqK.struct (ks := [.int, .int, .int, .int, .int, .str, .int, .int, .int, .int, .int, .int, .int, .int]) (dep := 3) Go.Proofs.Try.underlying39 (by kernel_rfl) rfl ?_
  refine EqF.cons (ks := [.int]) (ks' := [.int, .int, .int, .int, .str, .int, .int, .int, .int, .int, .int, .int, .int]) (by decide) rfl eqk3 (by decide) ?_
  refine EqF.cons (ks := [.int]) (ks' := [.int, .int, .int, .str, .int, .int, .int, .int, .int, .int, .int, .int]) (by decide) rfl eqk3 (by decide) ?_
  refine EqF.cons (ks := [.int]) (ks' := [.int, .int, .str, .int, .int, .int, .int, .int, .int, .int, .int]) (by decide) rfl eqk3 (by decide) ?_
  refine EqF.cons (ks := [.int, .int, .str]) (ks' := [.int, .int, .int, .int, .int, .int, .int, .int]) (by decide) rfl eqk32 (by decide) ?_
  refine EqF.cons (ks := [.int, .int, .int, .int, .int, .int, .int, .int]) (ks' := []) (by decide) rfl eqk37 (by decide) ?_
  exact EqF.nil
instance : EqT Go.Proofs.Try.prog 39 [.int, .int, .int, .int, .int, .str, .int, .int, .int, .int, .int, .int, .int, .int] := ⟨by kernel_rfl, 4, by decide, eqk39⟩
theorem eqk57 : EqK Go.Proofs.Try.prog 57 true [.int, .int, .int, .int, .int, .str, .int, .int, .int, .int, .int, .int, .int, .int] 4 := by
  refine EqK.struct (ks := [.int, .int, .int, .int, .int, .str, .int, .int, .int, .int, .int, .int, .int, .int]) (dep := 3) Go.Proofs.Try.underlying57 (by kernel_rfl) rfl ?_
  refine EqF.cons (ks := [.int]) (ks' := [.int, .int, .int, .int, .str, .int, .int, .int, .int, .int, .int, .int, .int]) (by decide) rfl eqk3 (by decide) ?_
  refine EqF.cons (ks := [.int]) (ks' := [.int, .int, .int, .str, .int, .int, .int, .int, .int, .int, .int, .int]) (by decide) rfl eqk3 (by decide) ?_
  refine EqF.cons (ks := [.int]) (ks' := [.int, .int, .str, .int, .int, .int, .int, .int, .int, .int, .int]) (by decide) rfl eqk3 (by decide) ?_
  refine EqF.cons (ks := [.int, .int, .str]) (ks' := [.int, .int, .int, .int, .int, .int, .int, .int]) (by decide) rfl eqk32 (by decide) ?_
  refine EqF.cons (ks := [.int, .int, .int, .int, .int, .int, .int, .int]) (ks' := []) (by decide) rfl eqk37 (by decide) ?_
  exact EqF.nil
instance : EqT Go.Proofs.Try.prog 57 [.int, .int, .int, .int, .int, .str, .int, .int, .int, .int, .int, .int, .int, .int] := ⟨by kernel_rfl, 4, by decide, eqk57⟩
theorem eqk58 : EqK Go.Proofs.Try.prog 58 true [.int, .int, .int, .int, .int, .str, .int, .int, .int, .int, .int, .int, .int, .int] 4 := by
  refine EqK.struct (ks := [.int, .int, .int, .int, .int, .str, .int, .int, .int, .int, .int, .int, .int, .int]) (dep := 3) Go.Proofs.Try.underlying58 (by kernel_rfl) rfl ?_
  refine EqF.cons (ks := [.int]) (ks' := [.int, .int, .int, .int, .str, .int, .int, .int, .int, .int, .int, .int, .int]) (by decide) rfl eqk3 (by decide) ?_
  refine EqF.cons (ks := [.int]) (ks' := [.int, .int, .int, .str, .int, .int, .int, .int, .int, .int, .int, .int]) (by decide) rfl eqk3 (by decide) ?_
  refine EqF.cons (ks := [.int]) (ks' := [.int, .int, .str, .int, .int, .int, .int, .int, .int, .int, .int]) (by decide) rfl eqk3 (by decide) ?_
  refine EqF.cons (ks := [.int, .int, .str]) (ks' := [.int, .int, .int, .int, .int, .int, .int, .int]) (by decide) rfl eqk32 (by decide) ?_
  refine EqF.cons (ks := [.int, .int, .int, .int, .int, .int, .int, .int]) (ks' := []) (by decide) rfl eqk37 (by decide) ?_
  exact EqF.nil
instance : EqT Go.Proofs.Try.prog 58 [.int, .int, .int, .int, .int, .str, .int, .int, .int, .int, .int, .int, .int, .int] := ⟨by kernel_rfl, 4, by decide, eqk58⟩
theorem eqk60 : EqK Go.Proofs.Try.prog 60 true [.int, .int, .int, .str, .int, .int, .int, .int, .int, .int, .int, .int, .int] 4 := by
  refine EqK.struct (ks := [.int, .int, .int, .str, .int, .int, .int, .int, .int, .int, .int, .int, .int]) (dep := 3) Go.Proofs.Try.underlying60 (by kernel_rfl) rfl ?_
  refine EqF.cons (ks := [.int]) (ks' := [.int, .int, .str, .int, .int, .int, .int, .int, .int, .int, .int, .int]) (by decide) rfl eqk3 (by decide) ?_
  refine EqF.cons (ks := [.int, .int, .str]) (ks' := [.int, .int, .int, .int, .int, .int, .int, .int, .int]) (by decide) rfl eqk32 (by decide) ?_
  refine EqF.cons (ks := [.int, .int, .int, .int, .int, .int, .int, .int]) (ks' := [.int]) (by decide) rfl eqk37 (by decide) ?_
  refine EqF.cons (ks := [.int]) (ks' := []) (by decide) rfl eqk3 (by decide) ?_
  exact EqF.nil
instance : EqT Go.Proofs.Try.prog 60 [.int, .int, .int, .str, .int, .int, .int, .int, .int, .int, .int, .int, .int] := ⟨by kernel_rfl, 4, by decide, eqk60⟩
theorem eqk61 : EqK Go.Proofs.Try.prog 61 true [.int, .int, .int, .str, .int, .int, .int, .int, .int, .int, .int, .int, .int] 4 := by
  refine EqK.struct (ks := [.int, .int, .int, .str, .int, .int, .int, .int, .int, .int, .int, .int, .int]) (dep := 3) Go.Proofs.Try.underlying61 (by kernel_rfl) rfl ?_
  refine EqF.cons (ks := [.int]) (ks' := [.int, .int, .str, .int, .int, .int, .int, .int, .int, .int, .int, .int]) (by decide) rfl eqk3 (by decide) ?_
  refine EqF.cons (ks := [.int, .int, .str]) (ks' := [.int, .int, .int, .int, .int, .int, .int, .int, .int]) (by decide) rfl eqk32 (by decide) ?_
  refine EqF.cons (ks := [.int, .int, .int, .int, .int, .int, .int, .int]) (ks' := [.int]) (by decide) rfl eqk37 (by decide) ?_
  refine EqF.cons (ks := [.int]) (ks' := []) (by decide) rfl eqk3 (by decide) ?_
  exact EqF.nil
instance : EqT Go.Proofs.Try.prog 61 [.int, .int, .int, .str, .int, .int, .int, .int, .int, .int, .int, .int, .int] := ⟨by kernel_rfl, 4, by decide, eqk61⟩
theorem eqk78 : EqK Go.Proofs.Try.prog 78 false [.int] 1 := EqK.int
instance : Fun Go.Proofs.Try.prog 3 Go.Proofs.Try.f3 := ⟨Go.Proofs.Try.func3, by kernel_rfl, by kernel_rfl⟩
instance : Fun Go.Proofs.Try.prog 4 Go.Proofs.Try.f4 := ⟨Go.Proofs.Try.func4, by kernel_rfl, by kernel_rfl⟩
instance : Fun Go.Proofs.Try.prog 5 Go.Proofs.Try.f5 := ⟨Go.Proofs.Try.func5, by kernel_rfl, by kernel_rfl⟩
instance : Fun Go.Proofs.Try.prog 6 Go.Proofs.Try.f6 := ⟨Go.Proofs.Try.func6, by kernel_rfl, by kernel_rfl⟩
instance : Fun Go.Proofs.Try.prog 7 Go.Proofs.Try.f7 := ⟨Go.Proofs.Try.func7, by kernel_rfl, by kernel_rfl⟩
instance : Fun Go.Proofs.Try.prog 8 Go.Proofs.Try.f8 := ⟨Go.Proofs.Try.func8, by kernel_rfl, by kernel_rfl⟩
instance : Fun Go.Proofs.Try.prog 9 Go.Proofs.Try.f9 := ⟨Go.Proofs.Try.func9, by kernel_rfl, by kernel_rfl⟩
instance : Fun Go.Proofs.Try.prog 10 Go.Proofs.Try.f10 := ⟨Go.Proofs.Try.func10, by kernel_rfl, by kernel_rfl⟩
instance : Fun Go.Proofs.Try.prog 11 Go.Proofs.Try.f11 := ⟨Go.Proofs.Try.func11, by kernel_rfl, by kernel_rfl⟩
instance : Fun Go.Proofs.Try.prog 12 Go.Proofs.Try.f12 := ⟨Go.Proofs.Try.func12, by kernel_rfl, by kernel_rfl⟩
instance : Fun Go.Proofs.Try.prog 13 Go.Proofs.Try.f13 := ⟨Go.Proofs.Try.func13, by kernel_rfl, by kernel_rfl⟩
instance : Fun Go.Proofs.Try.prog 14 Go.Proofs.Try.f14 := ⟨Go.Proofs.Try.func14, by kernel_rfl, by kernel_rfl⟩
instance : Fun Go.Proofs.Try.prog 15 Go.Proofs.Try.f15 := ⟨Go.Proofs.Try.func15, by kernel_rfl, by kernel_rfl⟩
instance : Fun Go.Proofs.Try.prog 16 Go.Proofs.Try.f16 := ⟨Go.Proofs.Try.func16, by kernel_rfl, by kernel_rfl⟩
instance : Fun Go.Proofs.Try.prog 17 Go.Proofs.Try.f17 := ⟨Go.Proofs.Try.func17, by kernel_rfl, by kernel_rfl⟩
instance : Fun Go.Proofs.Try.prog 18 Go.Proofs.Try.f18 := ⟨Go.Proofs.Try.func18, by kernel_rfl, by kernel_rfl⟩
instance : Fun Go.Proofs.Try.prog 19 Go.Proofs.Try.f19 := ⟨Go.Proofs.Try.func19, by kernel_rfl, by kernel_rfl⟩
instance : Fun Go.Proofs.Try.prog 20 Go.Proofs.Try.f20 := ⟨Go.Proofs.Try.func20, by kernel_rfl, by kernel_rfl⟩
instance : Fun Go.Proofs.Try.prog 21 Go.Proofs.Try.f21 := ⟨Go.Proofs.Try.func21, by kernel_rfl, by kernel_rfl⟩
instance : Fun Go.Proofs.Try.prog 22 Go.Proofs.Try.f22 := ⟨Go.Proofs.Try.func22, by kernel_rfl, by kernel_rfl⟩
instance : Fun Go.Proofs.Try.prog 23 Go.Proofs.Try.f23 := ⟨Go.Proofs.Try.func23, by kernel_rfl, by kernel_rfl⟩
instance : Fun Go.Proofs.Try.prog 24 Go.Proofs.Try.f24 := ⟨Go.Proofs.Try.func24, by kernel_rfl, by kernel_rfl⟩
instance : Fun Go.Proofs.Try.prog 25 Go.Proofs.Try.f25 := ⟨Go.Proofs.Try.func25, by kernel_rfl, by kernel_rfl⟩
instance : Fun Go.Proofs.Try.prog 26 Go.Proofs.Try.f26 := ⟨Go.Proofs.Try.func26, by kernel_rfl, by kernel_rfl⟩
instance : Fun Go.Proofs.Try.prog 27 Go.Proofs.Try.f27 := ⟨Go.Proofs.Try.func27, by kernel_rfl, by kernel_rfl⟩
instance : Fun Go.Proofs.Try.prog 28 Go.Proofs.Try.f28 := ⟨Go.Proofs.Try.func28, by kernel_rfl, by kernel_rfl⟩
instance : Fun Go.Proofs.Try.prog 29 Go.Proofs.Try.f29 := ⟨Go.Proofs.Try.func29, by kernel_rfl, by kernel_rfl⟩
instance : Fun Go.Proofs.Try.prog 30 Go.Proofs.Try.f30 := ⟨Go.Proofs.Try.func30, by kernel_rfl, by kernel_rfl⟩
instance : Fun Go.Proofs.Try.prog 31 Go.Proofs.Try.f31 := ⟨Go.Proofs.Try.func31, by kernel_rfl, by kernel_rfl⟩
instance : Fun Go.Proofs.Try.prog 32 Go.Proofs.Try.f32 := ⟨Go.Proofs.Try.func32, by kernel_rfl, by kernel_rfl⟩
instance : Fun Go.Proofs.Try.prog 33 Go.Proofs.Try.f33 := ⟨Go.Proofs.Try.func33, by kernel_rfl, by kernel_rfl⟩
instance : Fun Go.Proofs.Try.prog 34 Go.Proofs.Try.f34 := ⟨Go.Proofs.Try.func34, by kernel_rfl, by kernel_rfl⟩
instance : Fun Go.Proofs.Try.prog 35 Go.Proofs.Try.f35 := ⟨Go.Proofs.Try.func35, by kernel_rfl, by kernel_rfl⟩
instance : Fun Go.Proofs.Try.prog 36 Go.Proofs.Try.f36 := ⟨Go.Proofs.Try.func36, by kernel_rfl, by kernel_rfl⟩
instance : Fun Go.Proofs.Try.prog 37 Go.Proofs.Try.f37 := ⟨Go.Proofs.Try.func37, by kernel_rfl, by kernel_rfl⟩
instance : Fun Go.Proofs.Try.prog 38 Go.Proofs.Try.f38 := ⟨Go.Proofs.Try.func38, by kernel_rfl, by kernel_rfl⟩
end Go.Proofs.Ytlomipcjkkjhiaa.Ty

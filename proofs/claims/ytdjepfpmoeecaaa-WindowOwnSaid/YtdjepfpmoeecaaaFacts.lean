/- Closed facts of the types, by program (wip/t/facts.py). -/
import Derived.Test.YtdjepfpmoeecaaaOps
import Derived.Test.YtdjepfpmoeecaaaProg
namespace Go.Proofs.Ytdjepfpmoeecaaa.Ty
open Go Go.RowKit
set_option linter.unusedVariables false
instance : Size Go.Proofs.Try.prog 1 1 := ⟨by kernel_rfl⟩
instance : Bytes Go.Proofs.Try.prog 1 8 := ⟨by kernel_rfl⟩
instance : Zero Go.Proofs.Try.prog 1 [.nilFunc] := ⟨by kernel_rfl⟩
instance : Scal Go.Proofs.Try.prog 1 := ⟨by kernel_rfl⟩
instance : Size Go.Proofs.Try.prog 2 1 := ⟨by kernel_rfl⟩
instance : Bytes Go.Proofs.Try.prog 2 8 := ⟨by kernel_rfl⟩
instance : Zero Go.Proofs.Try.prog 2 [.int .i64 0] := ⟨by kernel_rfl⟩
instance : Scal Go.Proofs.Try.prog 2 := ⟨by kernel_rfl⟩
instance : Und Go.Proofs.Try.prog 2 (.int .i64) := ⟨Go.Proofs.Try.underlying2⟩
instance : Size Go.Proofs.Try.prog 3 1 := ⟨by kernel_rfl⟩
instance : Bytes Go.Proofs.Try.prog 3 8 := ⟨by kernel_rfl⟩
instance : Zero Go.Proofs.Try.prog 3 [.int .i64 0] := ⟨by kernel_rfl⟩
instance : Scal Go.Proofs.Try.prog 3 := ⟨by kernel_rfl⟩
instance : Und Go.Proofs.Try.prog 3 (.int .i64) := ⟨Go.Proofs.Try.underlying3⟩
instance : Size Go.Proofs.Try.prog 4 1 := ⟨by kernel_rfl⟩
instance : Bytes Go.Proofs.Try.prog 4 1 := ⟨by kernel_rfl⟩
instance : Zero Go.Proofs.Try.prog 4 [.bool false] := ⟨by kernel_rfl⟩
instance : Scal Go.Proofs.Try.prog 4 := ⟨by kernel_rfl⟩
instance : Und Go.Proofs.Try.prog 4 .bool := ⟨Go.Proofs.Try.underlying4⟩
instance : Size Go.Proofs.Try.prog 5 1 := ⟨by kernel_rfl⟩
instance : Bytes Go.Proofs.Try.prog 5 1 := ⟨by kernel_rfl⟩
instance : Zero Go.Proofs.Try.prog 5 [.int .u8 0] := ⟨by kernel_rfl⟩
instance : Scal Go.Proofs.Try.prog 5 := ⟨by kernel_rfl⟩
instance : Und Go.Proofs.Try.prog 5 (.int .u8) := ⟨Go.Proofs.Try.underlying5⟩
instance : Size Go.Proofs.Try.prog 7 4 := ⟨by kernel_rfl⟩
instance : Bytes Go.Proofs.Try.prog 7 24 := ⟨by kernel_rfl⟩
instance : Zero Go.Proofs.Try.prog 7 [.int .i64 0, .int .i64 0, .bool false, .int .u8 0] := ⟨by kernel_rfl⟩
instance : Shape Go.Proofs.Try.prog 7 [.int .i64 0, .int .i64 0, .bool false, .int .u8 0] [(0, 1), (1, 1), (2, 1), (3, 1)] := ⟨.inl fun _ => by kernel_rfl⟩
instance : Aggr Go.Proofs.Try.prog 7 := ⟨by kernel_rfl⟩
instance : Fld Go.Proofs.Try.prog 7 0 0 2 := ⟨by kernel_rfl⟩
instance : Fld Go.Proofs.Try.prog 7 1 1 3 := ⟨by kernel_rfl⟩
instance : Fld Go.Proofs.Try.prog 7 2 2 4 := ⟨by kernel_rfl⟩
instance : Fld Go.Proofs.Try.prog 7 3 3 6 := ⟨by kernel_rfl⟩
instance : Size Go.Proofs.Try.prog 9 1 := ⟨by kernel_rfl⟩
instance : Bytes Go.Proofs.Try.prog 9 16 := ⟨by kernel_rfl⟩
instance : Zero Go.Proofs.Try.prog 9 [.string ByteArray.empty] := ⟨by kernel_rfl⟩
instance : Scal Go.Proofs.Try.prog 9 := ⟨by kernel_rfl⟩
instance : Und Go.Proofs.Try.prog 9 .string := ⟨Go.Proofs.Try.underlying9⟩
instance : Size Go.Proofs.Try.prog 12 1 := ⟨by kernel_rfl⟩
instance : Bytes Go.Proofs.Try.prog 12 8 := ⟨by kernel_rfl⟩
instance : Zero Go.Proofs.Try.prog 12 [.int .u64 0] := ⟨by kernel_rfl⟩
instance : Scal Go.Proofs.Try.prog 12 := ⟨by kernel_rfl⟩
instance : Und Go.Proofs.Try.prog 12 (.int .u64) := ⟨Go.Proofs.Try.underlying12⟩
instance : Size Go.Proofs.Try.prog 13 2 := ⟨by kernel_rfl⟩
instance : Bytes Go.Proofs.Try.prog 13 24 := ⟨by kernel_rfl⟩
instance : Zero Go.Proofs.Try.prog 13 [.string ByteArray.empty, .int .u64 0] := ⟨by kernel_rfl⟩
instance : Shape Go.Proofs.Try.prog 13 [.string ByteArray.empty, .int .u64 0] [(0, 1), (1, 1)] := ⟨.inl fun _ => by kernel_rfl⟩
instance : Aggr Go.Proofs.Try.prog 13 := ⟨by kernel_rfl⟩
instance : Fld Go.Proofs.Try.prog 13 0 0 9 := ⟨by kernel_rfl⟩
instance : Fld Go.Proofs.Try.prog 13 1 1 12 := ⟨by kernel_rfl⟩
instance : Size Go.Proofs.Try.prog 15 1 := ⟨by kernel_rfl⟩
instance : Bytes Go.Proofs.Try.prog 15 8 := ⟨by kernel_rfl⟩
instance : Zero Go.Proofs.Try.prog 15 [.pointer none] := ⟨by kernel_rfl⟩
instance : Scal Go.Proofs.Try.prog 15 := ⟨by kernel_rfl⟩
instance : Und Go.Proofs.Try.prog 15 (.pointer 115) := ⟨Go.Proofs.Try.underlying15⟩
instance : Size Go.Proofs.Try.prog 16 1 := ⟨by kernel_rfl⟩
instance : Bytes Go.Proofs.Try.prog 16 8 := ⟨by kernel_rfl⟩
instance : Zero Go.Proofs.Try.prog 16 [.pointer none] := ⟨by kernel_rfl⟩
instance : Scal Go.Proofs.Try.prog 16 := ⟨by kernel_rfl⟩
instance : Und Go.Proofs.Try.prog 16 (.pointer 118) := ⟨Go.Proofs.Try.underlying16⟩
instance : Size Go.Proofs.Try.prog 17 1 := ⟨by kernel_rfl⟩
instance : Bytes Go.Proofs.Try.prog 17 8 := ⟨by kernel_rfl⟩
instance : Zero Go.Proofs.Try.prog 17 [.pointer none] := ⟨by kernel_rfl⟩
instance : Scal Go.Proofs.Try.prog 17 := ⟨by kernel_rfl⟩
instance : Und Go.Proofs.Try.prog 17 (.pointer 127) := ⟨Go.Proofs.Try.underlying17⟩
instance : Size Go.Proofs.Try.prog 18 1 := ⟨by kernel_rfl⟩
instance : Bytes Go.Proofs.Try.prog 18 8 := ⟨by kernel_rfl⟩
instance : Zero Go.Proofs.Try.prog 18 [.pointer none] := ⟨by kernel_rfl⟩
instance : Shape Go.Proofs.Try.prog 18 [.pointer none] [(0, 1)] := ⟨.inl fun _ => by kernel_rfl⟩
instance : Aggr Go.Proofs.Try.prog 18 := ⟨by kernel_rfl⟩
instance : Fld Go.Proofs.Try.prog 18 0 0 17 := ⟨by kernel_rfl⟩
instance : Size Go.Proofs.Try.prog 20 1 := ⟨by kernel_rfl⟩
instance : Bytes Go.Proofs.Try.prog 20 16 := ⟨by kernel_rfl⟩
instance : Zero Go.Proofs.Try.prog 20 [.nilIface] := ⟨by kernel_rfl⟩
instance : Scal Go.Proofs.Try.prog 20 := ⟨by kernel_rfl⟩
instance : Size Go.Proofs.Try.prog 21 1 := ⟨by kernel_rfl⟩
instance : Bytes Go.Proofs.Try.prog 21 4 := ⟨by kernel_rfl⟩
instance : Zero Go.Proofs.Try.prog 21 [.int .i32 0] := ⟨by kernel_rfl⟩
instance : Scal Go.Proofs.Try.prog 21 := ⟨by kernel_rfl⟩
instance : Und Go.Proofs.Try.prog 21 (.int .i32) := ⟨Go.Proofs.Try.underlying21⟩
instance : Size Go.Proofs.Try.prog 22 1 := ⟨by kernel_rfl⟩
instance : Bytes Go.Proofs.Try.prog 22 24 := ⟨by kernel_rfl⟩
instance : Zero Go.Proofs.Try.prog 22 [.slice none 0 0] := ⟨by kernel_rfl⟩
instance : Scal Go.Proofs.Try.prog 22 := ⟨by kernel_rfl⟩
instance : Und Go.Proofs.Try.prog 22 (.slice 31) := ⟨Go.Proofs.Try.underlying22⟩
instance : Size Go.Proofs.Try.prog 23 1 := ⟨by kernel_rfl⟩
instance : Bytes Go.Proofs.Try.prog 23 8 := ⟨by kernel_rfl⟩
instance : Zero Go.Proofs.Try.prog 23 [.nilFunc] := ⟨by kernel_rfl⟩
instance : Scal Go.Proofs.Try.prog 23 := ⟨by kernel_rfl⟩
instance : Size Go.Proofs.Try.prog 24 1 := ⟨by kernel_rfl⟩
instance : Bytes Go.Proofs.Try.prog 24 8 := ⟨by kernel_rfl⟩
instance : Zero Go.Proofs.Try.prog 24 [.pointer none] := ⟨by kernel_rfl⟩
instance : Scal Go.Proofs.Try.prog 24 := ⟨by kernel_rfl⟩
instance : Und Go.Proofs.Try.prog 24 (.pointer 54) := ⟨Go.Proofs.Try.underlying24⟩
instance : Size Go.Proofs.Try.prog 25 1 := ⟨by kernel_rfl⟩
instance : Bytes Go.Proofs.Try.prog 25 8 := ⟨by kernel_rfl⟩
instance : Zero Go.Proofs.Try.prog 25 [.nilFunc] := ⟨by kernel_rfl⟩
instance : Scal Go.Proofs.Try.prog 25 := ⟨by kernel_rfl⟩
instance : Size Go.Proofs.Try.prog 26 2 := ⟨by kernel_rfl⟩
instance : Bytes Go.Proofs.Try.prog 26 16 := ⟨by kernel_rfl⟩
instance : Zero Go.Proofs.Try.prog 26 [.int .i64 0, .int .i64 0] := ⟨by kernel_rfl⟩
instance : Shape Go.Proofs.Try.prog 26 [.int .i64 0, .int .i64 0] [(0, 1), (1, 1)] := ⟨.inl fun _ => by kernel_rfl⟩
instance : Aggr Go.Proofs.Try.prog 26 := ⟨by kernel_rfl⟩
instance : Fld Go.Proofs.Try.prog 26 0 0 3 := ⟨by kernel_rfl⟩
instance : Fld Go.Proofs.Try.prog 26 1 1 3 := ⟨by kernel_rfl⟩
instance : Size Go.Proofs.Try.prog 27 2 := ⟨by kernel_rfl⟩
instance : Bytes Go.Proofs.Try.prog 27 16 := ⟨by kernel_rfl⟩
instance : Zero Go.Proofs.Try.prog 27 [.int .i64 0, .int .i64 0] := ⟨by kernel_rfl⟩
instance : Shape Go.Proofs.Try.prog 27 [.int .i64 0, .int .i64 0] [(0, 1), (1, 1)] := ⟨.inl fun _ => by kernel_rfl⟩
instance : Aggr Go.Proofs.Try.prog 27 := ⟨by kernel_rfl⟩
instance : Fld Go.Proofs.Try.prog 27 0 0 3 := ⟨by kernel_rfl⟩
instance : Fld Go.Proofs.Try.prog 27 1 1 3 := ⟨by kernel_rfl⟩
instance : Size Go.Proofs.Try.prog 28 6 := ⟨by kernel_rfl⟩
instance : Bytes Go.Proofs.Try.prog 28 48 := ⟨by kernel_rfl⟩
instance : Zero Go.Proofs.Try.prog 28 [.int .i64 0, .int .i64 0, .int .i64 0, .int .i64 0, .int .i64 0, .int .i64 0] := ⟨by kernel_rfl⟩
instance : Shape Go.Proofs.Try.prog 28 [.int .i64 0, .int .i64 0, .int .i64 0, .int .i64 0, .int .i64 0, .int .i64 0] [(0, 1), (1, 1), (2, 1), (3, 1), (4, 1), (5, 1)] := ⟨.inl fun _ => by kernel_rfl⟩
instance : Aggr Go.Proofs.Try.prog 28 := ⟨by kernel_rfl⟩
instance : Fld Go.Proofs.Try.prog 28 0 0 3 := ⟨by kernel_rfl⟩
instance : Fld Go.Proofs.Try.prog 28 1 1 3 := ⟨by kernel_rfl⟩
instance : Fld Go.Proofs.Try.prog 28 2 2 3 := ⟨by kernel_rfl⟩
instance : Fld Go.Proofs.Try.prog 28 3 3 3 := ⟨by kernel_rfl⟩
instance : Fld Go.Proofs.Try.prog 28 4 4 3 := ⟨by kernel_rfl⟩
instance : Fld Go.Proofs.Try.prog 28 5 5 3 := ⟨by kernel_rfl⟩
instance : Size Go.Proofs.Try.prog 29 6 := ⟨by kernel_rfl⟩
instance : Bytes Go.Proofs.Try.prog 29 48 := ⟨by kernel_rfl⟩
instance : Zero Go.Proofs.Try.prog 29 [.int .i64 0, .int .i64 0, .int .i64 0, .int .i64 0, .int .i64 0, .int .i64 0] := ⟨by kernel_rfl⟩
instance : Shape Go.Proofs.Try.prog 29 [.int .i64 0, .int .i64 0, .int .i64 0, .int .i64 0, .int .i64 0, .int .i64 0] [(0, 1), (1, 1), (2, 1), (3, 1), (4, 1), (5, 1)] := ⟨.inl fun _ => by kernel_rfl⟩
instance : Aggr Go.Proofs.Try.prog 29 := ⟨by kernel_rfl⟩
instance : Fld Go.Proofs.Try.prog 29 0 0 3 := ⟨by kernel_rfl⟩
instance : Fld Go.Proofs.Try.prog 29 1 1 3 := ⟨by kernel_rfl⟩
instance : Fld Go.Proofs.Try.prog 29 2 2 3 := ⟨by kernel_rfl⟩
instance : Fld Go.Proofs.Try.prog 29 3 3 3 := ⟨by kernel_rfl⟩
instance : Fld Go.Proofs.Try.prog 29 4 4 3 := ⟨by kernel_rfl⟩
instance : Fld Go.Proofs.Try.prog 29 5 5 3 := ⟨by kernel_rfl⟩
instance : Size Go.Proofs.Try.prog 30 10 := ⟨by kernel_rfl⟩
instance : Bytes Go.Proofs.Try.prog 30 80 := ⟨by kernel_rfl⟩
instance : Zero Go.Proofs.Try.prog 30 [.int .i64 0, .int .i64 0, .int .i64 0, .int .i64 0, .int .i64 0, .int .i64 0, .int .i64 0, .int .i64 0, .int .i64 0, .int .i64 0] := ⟨by kernel_rfl⟩
instance : Shape Go.Proofs.Try.prog 30 [.int .i64 0, .int .i64 0, .int .i64 0, .int .i64 0, .int .i64 0, .int .i64 0, .int .i64 0, .int .i64 0, .int .i64 0, .int .i64 0] [(0, 1), (1, 2), (3, 6), (9, 1)] := ⟨.inl fun _ => by kernel_rfl⟩
instance : Aggr Go.Proofs.Try.prog 30 := ⟨by kernel_rfl⟩
instance : Fld Go.Proofs.Try.prog 30 0 0 3 := ⟨by kernel_rfl⟩
instance : Fld Go.Proofs.Try.prog 30 1 1 27 := ⟨by kernel_rfl⟩
instance : Fld Go.Proofs.Try.prog 30 2 3 29 := ⟨by kernel_rfl⟩
instance : Fld Go.Proofs.Try.prog 30 3 9 3 := ⟨by kernel_rfl⟩
instance : Size Go.Proofs.Try.prog 31 10 := ⟨by kernel_rfl⟩
instance : Bytes Go.Proofs.Try.prog 31 80 := ⟨by kernel_rfl⟩
instance : Zero Go.Proofs.Try.prog 31 [.int .i64 0, .int .i64 0, .int .i64 0, .int .i64 0, .int .i64 0, .int .i64 0, .int .i64 0, .int .i64 0, .int .i64 0, .int .i64 0] := ⟨by kernel_rfl⟩
instance : Shape Go.Proofs.Try.prog 31 [.int .i64 0, .int .i64 0, .int .i64 0, .int .i64 0, .int .i64 0, .int .i64 0, .int .i64 0, .int .i64 0, .int .i64 0, .int .i64 0] [(0, 1), (1, 2), (3, 6), (9, 1)] := ⟨.inl fun _ => by kernel_rfl⟩
instance : Aggr Go.Proofs.Try.prog 31 := ⟨by kernel_rfl⟩
instance : Fld Go.Proofs.Try.prog 31 0 0 3 := ⟨by kernel_rfl⟩
instance : Fld Go.Proofs.Try.prog 31 1 1 27 := ⟨by kernel_rfl⟩
instance : Fld Go.Proofs.Try.prog 31 2 3 29 := ⟨by kernel_rfl⟩
instance : Fld Go.Proofs.Try.prog 31 3 9 3 := ⟨by kernel_rfl⟩
instance : Size Go.Proofs.Try.prog 32 1 := ⟨by kernel_rfl⟩
instance : Bytes Go.Proofs.Try.prog 32 8 := ⟨by kernel_rfl⟩
instance : Zero Go.Proofs.Try.prog 32 [.nilFunc] := ⟨by kernel_rfl⟩
instance : Scal Go.Proofs.Try.prog 32 := ⟨by kernel_rfl⟩
instance : Size Go.Proofs.Try.prog 33 1 := ⟨by kernel_rfl⟩
instance : Bytes Go.Proofs.Try.prog 33 8 := ⟨by kernel_rfl⟩
instance : Zero Go.Proofs.Try.prog 33 [.nilFunc] := ⟨by kernel_rfl⟩
instance : Scal Go.Proofs.Try.prog 33 := ⟨by kernel_rfl⟩
instance : Size Go.Proofs.Try.prog 34 1 := ⟨by kernel_rfl⟩
instance : Bytes Go.Proofs.Try.prog 34 8 := ⟨by kernel_rfl⟩
instance : Zero Go.Proofs.Try.prog 34 [.nilFunc] := ⟨by kernel_rfl⟩
instance : Scal Go.Proofs.Try.prog 34 := ⟨by kernel_rfl⟩
instance : Size Go.Proofs.Try.prog 36 1 := ⟨by kernel_rfl⟩
instance : Bytes Go.Proofs.Try.prog 36 8 := ⟨by kernel_rfl⟩
instance : Zero Go.Proofs.Try.prog 36 [.nilFunc] := ⟨by kernel_rfl⟩
instance : Scal Go.Proofs.Try.prog 36 := ⟨by kernel_rfl⟩
instance : Size Go.Proofs.Try.prog 37 1 := ⟨by kernel_rfl⟩
instance : Bytes Go.Proofs.Try.prog 37 8 := ⟨by kernel_rfl⟩
instance : Zero Go.Proofs.Try.prog 37 [.nilFunc] := ⟨by kernel_rfl⟩
instance : Scal Go.Proofs.Try.prog 37 := ⟨by kernel_rfl⟩
instance : Size Go.Proofs.Try.prog 38 1 := ⟨by kernel_rfl⟩
instance : Bytes Go.Proofs.Try.prog 38 8 := ⟨by kernel_rfl⟩
instance : Zero Go.Proofs.Try.prog 38 [.nilFunc] := ⟨by kernel_rfl⟩
instance : Scal Go.Proofs.Try.prog 38 := ⟨by kernel_rfl⟩
instance : Size Go.Proofs.Try.prog 39 1 := ⟨by kernel_rfl⟩
instance : Bytes Go.Proofs.Try.prog 39 24 := ⟨by kernel_rfl⟩
instance : Zero Go.Proofs.Try.prog 39 [.slice none 0 0] := ⟨by kernel_rfl⟩
instance : Scal Go.Proofs.Try.prog 39 := ⟨by kernel_rfl⟩
instance : Und Go.Proofs.Try.prog 39 (.slice 48) := ⟨Go.Proofs.Try.underlying39⟩
instance : Size Go.Proofs.Try.prog 41 1 := ⟨by kernel_rfl⟩
instance : Bytes Go.Proofs.Try.prog 41 8 := ⟨by kernel_rfl⟩
instance : Zero Go.Proofs.Try.prog 41 [.nilFunc] := ⟨by kernel_rfl⟩
instance : Scal Go.Proofs.Try.prog 41 := ⟨by kernel_rfl⟩
instance : Size Go.Proofs.Try.prog 42 1 := ⟨by kernel_rfl⟩
instance : Bytes Go.Proofs.Try.prog 42 8 := ⟨by kernel_rfl⟩
instance : Zero Go.Proofs.Try.prog 42 [.nilFunc] := ⟨by kernel_rfl⟩
instance : Scal Go.Proofs.Try.prog 42 := ⟨by kernel_rfl⟩
instance : Size Go.Proofs.Try.prog 43 1 := ⟨by kernel_rfl⟩
instance : Bytes Go.Proofs.Try.prog 43 8 := ⟨by kernel_rfl⟩
instance : Zero Go.Proofs.Try.prog 43 [.nilFunc] := ⟨by kernel_rfl⟩
instance : Scal Go.Proofs.Try.prog 43 := ⟨by kernel_rfl⟩
instance : Size Go.Proofs.Try.prog 44 1 := ⟨by kernel_rfl⟩
instance : Bytes Go.Proofs.Try.prog 44 8 := ⟨by kernel_rfl⟩
instance : Zero Go.Proofs.Try.prog 44 [.nilFunc] := ⟨by kernel_rfl⟩
instance : Scal Go.Proofs.Try.prog 44 := ⟨by kernel_rfl⟩
instance : Size Go.Proofs.Try.prog 46 1 := ⟨by kernel_rfl⟩
instance : Bytes Go.Proofs.Try.prog 46 8 := ⟨by kernel_rfl⟩
instance : Zero Go.Proofs.Try.prog 46 [.nilFunc] := ⟨by kernel_rfl⟩
instance : Scal Go.Proofs.Try.prog 46 := ⟨by kernel_rfl⟩
instance : Size Go.Proofs.Try.prog 47 8 := ⟨by kernel_rfl⟩
instance : Bytes Go.Proofs.Try.prog 47 64 := ⟨by kernel_rfl⟩
instance : Zero Go.Proofs.Try.prog 47 [.int .i64 0, .int .i64 0, .int .i64 0, .int .i64 0, .int .i64 0, .int .i64 0, .int .i64 0, .int .i64 0] := ⟨by kernel_rfl⟩
instance : Shape Go.Proofs.Try.prog 47 [.int .i64 0, .int .i64 0, .int .i64 0, .int .i64 0, .int .i64 0, .int .i64 0, .int .i64 0, .int .i64 0] [(0, 2), (2, 6)] := ⟨.inl fun _ => by kernel_rfl⟩
instance : Aggr Go.Proofs.Try.prog 47 := ⟨by kernel_rfl⟩
instance : Fld Go.Proofs.Try.prog 47 0 0 27 := ⟨by kernel_rfl⟩
instance : Fld Go.Proofs.Try.prog 47 1 2 29 := ⟨by kernel_rfl⟩
instance : Size Go.Proofs.Try.prog 48 8 := ⟨by kernel_rfl⟩
instance : Bytes Go.Proofs.Try.prog 48 64 := ⟨by kernel_rfl⟩
instance : Zero Go.Proofs.Try.prog 48 [.int .i64 0, .int .i64 0, .int .i64 0, .int .i64 0, .int .i64 0, .int .i64 0, .int .i64 0, .int .i64 0] := ⟨by kernel_rfl⟩
instance : Shape Go.Proofs.Try.prog 48 [.int .i64 0, .int .i64 0, .int .i64 0, .int .i64 0, .int .i64 0, .int .i64 0, .int .i64 0, .int .i64 0] [(0, 2), (2, 6)] := ⟨.inl fun _ => by kernel_rfl⟩
instance : Aggr Go.Proofs.Try.prog 48 := ⟨by kernel_rfl⟩
instance : Fld Go.Proofs.Try.prog 48 0 0 27 := ⟨by kernel_rfl⟩
instance : Fld Go.Proofs.Try.prog 48 1 2 29 := ⟨by kernel_rfl⟩
instance : Size Go.Proofs.Try.prog 49 1 := ⟨by kernel_rfl⟩
instance : Bytes Go.Proofs.Try.prog 49 8 := ⟨by kernel_rfl⟩
instance : Zero Go.Proofs.Try.prog 49 [.nilFunc] := ⟨by kernel_rfl⟩
instance : Scal Go.Proofs.Try.prog 49 := ⟨by kernel_rfl⟩
instance : Size Go.Proofs.Try.prog 50 1 := ⟨by kernel_rfl⟩
instance : Bytes Go.Proofs.Try.prog 50 8 := ⟨by kernel_rfl⟩
instance : Zero Go.Proofs.Try.prog 50 [.nilFunc] := ⟨by kernel_rfl⟩
instance : Scal Go.Proofs.Try.prog 50 := ⟨by kernel_rfl⟩
instance : Size Go.Proofs.Try.prog 51 1 := ⟨by kernel_rfl⟩
instance : Bytes Go.Proofs.Try.prog 51 8 := ⟨by kernel_rfl⟩
instance : Zero Go.Proofs.Try.prog 51 [.map none] := ⟨by kernel_rfl⟩
instance : Scal Go.Proofs.Try.prog 51 := ⟨by kernel_rfl⟩
instance : Und Go.Proofs.Try.prog 51 (.map 3 87) := ⟨Go.Proofs.Try.underlying51⟩
instance : Size Go.Proofs.Try.prog 52 1 := ⟨by kernel_rfl⟩
instance : Bytes Go.Proofs.Try.prog 52 8 := ⟨by kernel_rfl⟩
instance : Zero Go.Proofs.Try.prog 52 [.pointer none] := ⟨by kernel_rfl⟩
instance : Scal Go.Proofs.Try.prog 52 := ⟨by kernel_rfl⟩
instance : Und Go.Proofs.Try.prog 52 (.pointer 85) := ⟨Go.Proofs.Try.underlying52⟩
instance : Size Go.Proofs.Try.prog 53 3 := ⟨by kernel_rfl⟩
instance : Bytes Go.Proofs.Try.prog 53 24 := ⟨by kernel_rfl⟩
instance : Zero Go.Proofs.Try.prog 53 [.int .i64 0, .map none, .pointer none] := ⟨by kernel_rfl⟩
instance : Shape Go.Proofs.Try.prog 53 [.int .i64 0, .map none, .pointer none] [(0, 1), (1, 1), (2, 1)] := ⟨.inl fun _ => by kernel_rfl⟩
instance : Aggr Go.Proofs.Try.prog 53 := ⟨by kernel_rfl⟩
instance : Fld Go.Proofs.Try.prog 53 0 0 3 := ⟨by kernel_rfl⟩
instance : Fld Go.Proofs.Try.prog 53 1 1 51 := ⟨by kernel_rfl⟩
instance : Fld Go.Proofs.Try.prog 53 2 2 52 := ⟨by kernel_rfl⟩
instance : Size Go.Proofs.Try.prog 54 3 := ⟨by kernel_rfl⟩
instance : Bytes Go.Proofs.Try.prog 54 24 := ⟨by kernel_rfl⟩
instance : Zero Go.Proofs.Try.prog 54 [.int .i64 0, .map none, .pointer none] := ⟨by kernel_rfl⟩
instance : Shape Go.Proofs.Try.prog 54 [.int .i64 0, .map none, .pointer none] [(0, 1), (1, 1), (2, 1)] := ⟨.inl fun _ => by kernel_rfl⟩
instance : Aggr Go.Proofs.Try.prog 54 := ⟨by kernel_rfl⟩
instance : Fld Go.Proofs.Try.prog 54 0 0 3 := ⟨by kernel_rfl⟩
instance : Fld Go.Proofs.Try.prog 54 1 1 51 := ⟨by kernel_rfl⟩
instance : Fld Go.Proofs.Try.prog 54 2 2 52 := ⟨by kernel_rfl⟩
instance : Size Go.Proofs.Try.prog 55 1 := ⟨by kernel_rfl⟩
instance : Bytes Go.Proofs.Try.prog 55 8 := ⟨by kernel_rfl⟩
instance : Zero Go.Proofs.Try.prog 55 [.nilFunc] := ⟨by kernel_rfl⟩
instance : Scal Go.Proofs.Try.prog 55 := ⟨by kernel_rfl⟩
instance : Size Go.Proofs.Try.prog 56 1 := ⟨by kernel_rfl⟩
instance : Bytes Go.Proofs.Try.prog 56 24 := ⟨by kernel_rfl⟩
instance : Zero Go.Proofs.Try.prog 56 [.slice none 0 0] := ⟨by kernel_rfl⟩
instance : Scal Go.Proofs.Try.prog 56 := ⟨by kernel_rfl⟩
instance : Und Go.Proofs.Try.prog 56 (.slice 66) := ⟨Go.Proofs.Try.underlying56⟩
instance : Size Go.Proofs.Try.prog 57 1 := ⟨by kernel_rfl⟩
instance : Bytes Go.Proofs.Try.prog 57 8 := ⟨by kernel_rfl⟩
instance : Zero Go.Proofs.Try.prog 57 [.nilFunc] := ⟨by kernel_rfl⟩
instance : Scal Go.Proofs.Try.prog 57 := ⟨by kernel_rfl⟩
instance : Size Go.Proofs.Try.prog 58 7 := ⟨by kernel_rfl⟩
instance : Bytes Go.Proofs.Try.prog 58 56 := ⟨by kernel_rfl⟩
instance : Zero Go.Proofs.Try.prog 58 [.int .i64 0, .int .i64 0, .int .i64 0, .int .i64 0, .int .i64 0, .int .i64 0, .int .i64 0] := ⟨by kernel_rfl⟩
instance : Shape Go.Proofs.Try.prog 58 [.int .i64 0, .int .i64 0, .int .i64 0, .int .i64 0, .int .i64 0, .int .i64 0, .int .i64 0] [(0, 1), (1, 1), (2, 1), (3, 1), (4, 1), (5, 1), (6, 1)] := ⟨.inl fun _ => by kernel_rfl⟩
instance : Aggr Go.Proofs.Try.prog 58 := ⟨by kernel_rfl⟩
instance : Fld Go.Proofs.Try.prog 58 0 0 3 := ⟨by kernel_rfl⟩
instance : Fld Go.Proofs.Try.prog 58 1 1 3 := ⟨by kernel_rfl⟩
instance : Fld Go.Proofs.Try.prog 58 2 2 3 := ⟨by kernel_rfl⟩
instance : Fld Go.Proofs.Try.prog 58 3 3 3 := ⟨by kernel_rfl⟩
instance : Fld Go.Proofs.Try.prog 58 4 4 3 := ⟨by kernel_rfl⟩
instance : Fld Go.Proofs.Try.prog 58 5 5 3 := ⟨by kernel_rfl⟩
instance : Fld Go.Proofs.Try.prog 58 6 6 3 := ⟨by kernel_rfl⟩
instance : Size Go.Proofs.Try.prog 59 7 := ⟨by kernel_rfl⟩
instance : Bytes Go.Proofs.Try.prog 59 56 := ⟨by kernel_rfl⟩
instance : Zero Go.Proofs.Try.prog 59 [.int .i64 0, .int .i64 0, .int .i64 0, .int .i64 0, .int .i64 0, .int .i64 0, .int .i64 0] := ⟨by kernel_rfl⟩
instance : Shape Go.Proofs.Try.prog 59 [.int .i64 0, .int .i64 0, .int .i64 0, .int .i64 0, .int .i64 0, .int .i64 0, .int .i64 0] [(0, 1), (1, 1), (2, 1), (3, 1), (4, 1), (5, 1), (6, 1)] := ⟨.inl fun _ => by kernel_rfl⟩
instance : Aggr Go.Proofs.Try.prog 59 := ⟨by kernel_rfl⟩
instance : Fld Go.Proofs.Try.prog 59 0 0 3 := ⟨by kernel_rfl⟩
instance : Fld Go.Proofs.Try.prog 59 1 1 3 := ⟨by kernel_rfl⟩
instance : Fld Go.Proofs.Try.prog 59 2 2 3 := ⟨by kernel_rfl⟩
instance : Fld Go.Proofs.Try.prog 59 3 3 3 := ⟨by kernel_rfl⟩
instance : Fld Go.Proofs.Try.prog 59 4 4 3 := ⟨by kernel_rfl⟩
instance : Fld Go.Proofs.Try.prog 59 5 5 3 := ⟨by kernel_rfl⟩
instance : Fld Go.Proofs.Try.prog 59 6 6 3 := ⟨by kernel_rfl⟩
instance : Size Go.Proofs.Try.prog 60 1 := ⟨by kernel_rfl⟩
instance : Bytes Go.Proofs.Try.prog 60 8 := ⟨by kernel_rfl⟩
instance : Zero Go.Proofs.Try.prog 60 [.nilFunc] := ⟨by kernel_rfl⟩
instance : Scal Go.Proofs.Try.prog 60 := ⟨by kernel_rfl⟩
instance : Size Go.Proofs.Try.prog 61 1 := ⟨by kernel_rfl⟩
instance : Bytes Go.Proofs.Try.prog 61 8 := ⟨by kernel_rfl⟩
instance : Zero Go.Proofs.Try.prog 61 [.pointer none] := ⟨by kernel_rfl⟩
instance : Scal Go.Proofs.Try.prog 61 := ⟨by kernel_rfl⟩
instance : Und Go.Proofs.Try.prog 61 (.pointer 82) := ⟨Go.Proofs.Try.underlying61⟩
instance : Size Go.Proofs.Try.prog 62 1 := ⟨by kernel_rfl⟩
instance : Bytes Go.Proofs.Try.prog 62 8 := ⟨by kernel_rfl⟩
instance : Zero Go.Proofs.Try.prog 62 [.int .i64 0] := ⟨by kernel_rfl⟩
instance : Scal Go.Proofs.Try.prog 62 := ⟨by kernel_rfl⟩
instance : Und Go.Proofs.Try.prog 62 (.int .i64) := ⟨Go.Proofs.Try.underlying62⟩
instance : Size Go.Proofs.Try.prog 64 1 := ⟨by kernel_rfl⟩
instance : Bytes Go.Proofs.Try.prog 64 8 := ⟨by kernel_rfl⟩
instance : Zero Go.Proofs.Try.prog 64 [.nilFunc] := ⟨by kernel_rfl⟩
instance : Scal Go.Proofs.Try.prog 64 := ⟨by kernel_rfl⟩
instance : Size Go.Proofs.Try.prog 65 11 := ⟨by kernel_rfl⟩
instance : Bytes Go.Proofs.Try.prog 65 96 := ⟨by kernel_rfl⟩
instance : Zero Go.Proofs.Try.prog 65 [.int .i64 0, .string ByteArray.empty, .int .i64 0, .int .i64 0, .int .i64 0, .int .i64 0, .int .i64 0, .int .i64 0, .int .i64 0, .int .i64 0, .int .i64 0] := ⟨by kernel_rfl⟩
instance : Shape Go.Proofs.Try.prog 65 [.int .i64 0, .string ByteArray.empty, .int .i64 0, .int .i64 0, .int .i64 0, .int .i64 0, .int .i64 0, .int .i64 0, .int .i64 0, .int .i64 0, .int .i64 0] [(0, 1), (1, 1), (2, 1), (3, 2), (5, 6)] := ⟨.inl fun _ => by kernel_rfl⟩
instance : Aggr Go.Proofs.Try.prog 65 := ⟨by kernel_rfl⟩
instance : Fld Go.Proofs.Try.prog 65 0 0 3 := ⟨by kernel_rfl⟩
instance : Fld Go.Proofs.Try.prog 65 1 1 9 := ⟨by kernel_rfl⟩
instance : Fld Go.Proofs.Try.prog 65 2 2 3 := ⟨by kernel_rfl⟩
instance : Fld Go.Proofs.Try.prog 65 3 3 27 := ⟨by kernel_rfl⟩
instance : Fld Go.Proofs.Try.prog 65 4 5 29 := ⟨by kernel_rfl⟩
instance : Size Go.Proofs.Try.prog 66 11 := ⟨by kernel_rfl⟩
instance : Bytes Go.Proofs.Try.prog 66 96 := ⟨by kernel_rfl⟩
instance : Zero Go.Proofs.Try.prog 66 [.int .i64 0, .string ByteArray.empty, .int .i64 0, .int .i64 0, .int .i64 0, .int .i64 0, .int .i64 0, .int .i64 0, .int .i64 0, .int .i64 0, .int .i64 0] := ⟨by kernel_rfl⟩
instance : Shape Go.Proofs.Try.prog 66 [.int .i64 0, .string ByteArray.empty, .int .i64 0, .int .i64 0, .int .i64 0, .int .i64 0, .int .i64 0, .int .i64 0, .int .i64 0, .int .i64 0, .int .i64 0] [(0, 1), (1, 1), (2, 1), (3, 2), (5, 6)] := ⟨.inl fun _ => by kernel_rfl⟩
instance : Aggr Go.Proofs.Try.prog 66 := ⟨by kernel_rfl⟩
instance : Fld Go.Proofs.Try.prog 66 0 0 3 := ⟨by kernel_rfl⟩
instance : Fld Go.Proofs.Try.prog 66 1 1 9 := ⟨by kernel_rfl⟩
instance : Fld Go.Proofs.Try.prog 66 2 2 3 := ⟨by kernel_rfl⟩
instance : Fld Go.Proofs.Try.prog 66 3 3 27 := ⟨by kernel_rfl⟩
instance : Fld Go.Proofs.Try.prog 66 4 5 29 := ⟨by kernel_rfl⟩
instance : Size Go.Proofs.Try.prog 67 1 := ⟨by kernel_rfl⟩
instance : Bytes Go.Proofs.Try.prog 67 8 := ⟨by kernel_rfl⟩
instance : Zero Go.Proofs.Try.prog 67 [.nilFunc] := ⟨by kernel_rfl⟩
instance : Scal Go.Proofs.Try.prog 67 := ⟨by kernel_rfl⟩
instance : Size Go.Proofs.Try.prog 68 1 := ⟨by kernel_rfl⟩
instance : Bytes Go.Proofs.Try.prog 68 8 := ⟨by kernel_rfl⟩
instance : Zero Go.Proofs.Try.prog 68 [.nilFunc] := ⟨by kernel_rfl⟩
instance : Scal Go.Proofs.Try.prog 68 := ⟨by kernel_rfl⟩
instance : Size Go.Proofs.Try.prog 69 1 := ⟨by kernel_rfl⟩
instance : Bytes Go.Proofs.Try.prog 69 8 := ⟨by kernel_rfl⟩
instance : Zero Go.Proofs.Try.prog 69 [.pointer none] := ⟨by kernel_rfl⟩
instance : Scal Go.Proofs.Try.prog 69 := ⟨by kernel_rfl⟩
instance : Und Go.Proofs.Try.prog 69 (.pointer 71) := ⟨Go.Proofs.Try.underlying69⟩
instance : Size Go.Proofs.Try.prog 70 11 := ⟨by kernel_rfl⟩
instance : Bytes Go.Proofs.Try.prog 70 112 := ⟨by kernel_rfl⟩
instance : Zero Go.Proofs.Try.prog 70 [.int .i64 0, .int .i64 0, .int .i64 0, .int .i64 0, .int .i64 0, .int .i64 0, .int .i64 0, .string ByteArray.empty, .int .i64 0, .int .i64 0, .slice none 0 0] := ⟨by kernel_rfl⟩
instance : Shape Go.Proofs.Try.prog 70 [.int .i64 0, .int .i64 0, .int .i64 0, .int .i64 0, .int .i64 0, .int .i64 0, .int .i64 0, .string ByteArray.empty, .int .i64 0, .int .i64 0, .slice none 0 0] [(0, 7), (7, 1), (8, 1), (9, 1), (10, 1)] := ⟨.inl fun _ => by kernel_rfl⟩
instance : Aggr Go.Proofs.Try.prog 70 := ⟨by kernel_rfl⟩
instance : Fld Go.Proofs.Try.prog 70 0 0 59 := ⟨by kernel_rfl⟩
instance : Fld Go.Proofs.Try.prog 70 1 7 9 := ⟨by kernel_rfl⟩
instance : Fld Go.Proofs.Try.prog 70 2 8 3 := ⟨by kernel_rfl⟩
instance : Fld Go.Proofs.Try.prog 70 3 9 3 := ⟨by kernel_rfl⟩
instance : Fld Go.Proofs.Try.prog 70 4 10 39 := ⟨by kernel_rfl⟩
instance : Size Go.Proofs.Try.prog 71 11 := ⟨by kernel_rfl⟩
instance : Bytes Go.Proofs.Try.prog 71 112 := ⟨by kernel_rfl⟩
instance : Zero Go.Proofs.Try.prog 71 [.int .i64 0, .int .i64 0, .int .i64 0, .int .i64 0, .int .i64 0, .int .i64 0, .int .i64 0, .string ByteArray.empty, .int .i64 0, .int .i64 0, .slice none 0 0] := ⟨by kernel_rfl⟩
instance : Shape Go.Proofs.Try.prog 71 [.int .i64 0, .int .i64 0, .int .i64 0, .int .i64 0, .int .i64 0, .int .i64 0, .int .i64 0, .string ByteArray.empty, .int .i64 0, .int .i64 0, .slice none 0 0] [(0, 7), (7, 1), (8, 1), (9, 1), (10, 1)] := ⟨.inl fun _ => by kernel_rfl⟩
instance : Aggr Go.Proofs.Try.prog 71 := ⟨by kernel_rfl⟩
instance : Fld Go.Proofs.Try.prog 71 0 0 59 := ⟨by kernel_rfl⟩
instance : Fld Go.Proofs.Try.prog 71 1 7 9 := ⟨by kernel_rfl⟩
instance : Fld Go.Proofs.Try.prog 71 2 8 3 := ⟨by kernel_rfl⟩
instance : Fld Go.Proofs.Try.prog 71 3 9 3 := ⟨by kernel_rfl⟩
instance : Fld Go.Proofs.Try.prog 71 4 10 39 := ⟨by kernel_rfl⟩
instance : Size Go.Proofs.Try.prog 72 1 := ⟨by kernel_rfl⟩
instance : Bytes Go.Proofs.Try.prog 72 8 := ⟨by kernel_rfl⟩
instance : Zero Go.Proofs.Try.prog 72 [.nilFunc] := ⟨by kernel_rfl⟩
instance : Scal Go.Proofs.Try.prog 72 := ⟨by kernel_rfl⟩
instance : Size Go.Proofs.Try.prog 73 1 := ⟨by kernel_rfl⟩
instance : Bytes Go.Proofs.Try.prog 73 8 := ⟨by kernel_rfl⟩
instance : Zero Go.Proofs.Try.prog 73 [.nilFunc] := ⟨by kernel_rfl⟩
instance : Scal Go.Proofs.Try.prog 73 := ⟨by kernel_rfl⟩
instance : Size Go.Proofs.Try.prog 74 2 := ⟨by kernel_rfl⟩
instance : Bytes Go.Proofs.Try.prog 74 16 := ⟨by kernel_rfl⟩
instance : Zero Go.Proofs.Try.prog 74 [.int .i64 0, .int .i64 0] := ⟨by kernel_rfl⟩
instance : Shape Go.Proofs.Try.prog 74 [.int .i64 0, .int .i64 0] [(0, 1), (1, 1)] := ⟨.inr ⟨1, by decide, fun _ => by kernel_rfl⟩⟩
instance : Aggr Go.Proofs.Try.prog 74 := ⟨by kernel_rfl⟩
instance : Und Go.Proofs.Try.prog 74 (.array 2 3) := ⟨Go.Proofs.Try.underlying74⟩
instance : Size Go.Proofs.Try.prog 75 1 := ⟨by kernel_rfl⟩
instance : Bytes Go.Proofs.Try.prog 75 8 := ⟨by kernel_rfl⟩
instance : Zero Go.Proofs.Try.prog 75 [.nilFunc] := ⟨by kernel_rfl⟩
instance : Scal Go.Proofs.Try.prog 75 := ⟨by kernel_rfl⟩
instance : Size Go.Proofs.Try.prog 77 1 := ⟨by kernel_rfl⟩
instance : Bytes Go.Proofs.Try.prog 77 8 := ⟨by kernel_rfl⟩
instance : Zero Go.Proofs.Try.prog 77 [.nilFunc] := ⟨by kernel_rfl⟩
instance : Scal Go.Proofs.Try.prog 77 := ⟨by kernel_rfl⟩
instance : Size Go.Proofs.Try.prog 78 1 := ⟨by kernel_rfl⟩
instance : Bytes Go.Proofs.Try.prog 78 8 := ⟨by kernel_rfl⟩
instance : Zero Go.Proofs.Try.prog 78 [.nilFunc] := ⟨by kernel_rfl⟩
instance : Scal Go.Proofs.Try.prog 78 := ⟨by kernel_rfl⟩
instance : Size Go.Proofs.Try.prog 79 1 := ⟨by kernel_rfl⟩
instance : Bytes Go.Proofs.Try.prog 79 8 := ⟨by kernel_rfl⟩
instance : Zero Go.Proofs.Try.prog 79 [.nilFunc] := ⟨by kernel_rfl⟩
instance : Scal Go.Proofs.Try.prog 79 := ⟨by kernel_rfl⟩
instance : Size Go.Proofs.Try.prog 80 1 := ⟨by kernel_rfl⟩
instance : Bytes Go.Proofs.Try.prog 80 8 := ⟨by kernel_rfl⟩
instance : Zero Go.Proofs.Try.prog 80 [.pointer none] := ⟨by kernel_rfl⟩
instance : Scal Go.Proofs.Try.prog 80 := ⟨by kernel_rfl⟩
instance : Und Go.Proofs.Try.prog 80 (.pointer 112) := ⟨Go.Proofs.Try.underlying80⟩
instance : Size Go.Proofs.Try.prog 81 10 := ⟨by kernel_rfl⟩
instance : Bytes Go.Proofs.Try.prog 81 80 := ⟨by kernel_rfl⟩
instance : Zero Go.Proofs.Try.prog 81 [.pointer none, .pointer none, .int .i64 0, .int .i64 0, .int .i64 0, .int .i64 0, .int .i64 0, .int .i64 0, .int .i64 0, .int .i64 0] := ⟨by kernel_rfl⟩
instance : Shape Go.Proofs.Try.prog 81 [.pointer none, .pointer none, .int .i64 0, .int .i64 0, .int .i64 0, .int .i64 0, .int .i64 0, .int .i64 0, .int .i64 0, .int .i64 0] [(0, 1), (1, 1), (2, 7), (9, 1)] := ⟨.inl fun _ => by kernel_rfl⟩
instance : Aggr Go.Proofs.Try.prog 81 := ⟨by kernel_rfl⟩
instance : Fld Go.Proofs.Try.prog 81 0 0 80 := ⟨by kernel_rfl⟩
instance : Fld Go.Proofs.Try.prog 81 1 1 24 := ⟨by kernel_rfl⟩
instance : Fld Go.Proofs.Try.prog 81 2 2 59 := ⟨by kernel_rfl⟩
instance : Fld Go.Proofs.Try.prog 81 3 9 3 := ⟨by kernel_rfl⟩
instance : Size Go.Proofs.Try.prog 82 10 := ⟨by kernel_rfl⟩
instance : Bytes Go.Proofs.Try.prog 82 80 := ⟨by kernel_rfl⟩
instance : Zero Go.Proofs.Try.prog 82 [.pointer none, .pointer none, .int .i64 0, .int .i64 0, .int .i64 0, .int .i64 0, .int .i64 0, .int .i64 0, .int .i64 0, .int .i64 0] := ⟨by kernel_rfl⟩
instance : Shape Go.Proofs.Try.prog 82 [.pointer none, .pointer none, .int .i64 0, .int .i64 0, .int .i64 0, .int .i64 0, .int .i64 0, .int .i64 0, .int .i64 0, .int .i64 0] [(0, 1), (1, 1), (2, 7), (9, 1)] := ⟨.inl fun _ => by kernel_rfl⟩
instance : Aggr Go.Proofs.Try.prog 82 := ⟨by kernel_rfl⟩
instance : Fld Go.Proofs.Try.prog 82 0 0 80 := ⟨by kernel_rfl⟩
instance : Fld Go.Proofs.Try.prog 82 1 1 24 := ⟨by kernel_rfl⟩
instance : Fld Go.Proofs.Try.prog 82 2 2 59 := ⟨by kernel_rfl⟩
instance : Fld Go.Proofs.Try.prog 82 3 9 3 := ⟨by kernel_rfl⟩
instance : Size Go.Proofs.Try.prog 83 1 := ⟨by kernel_rfl⟩
instance : Bytes Go.Proofs.Try.prog 83 8 := ⟨by kernel_rfl⟩
instance : Zero Go.Proofs.Try.prog 83 [.nilFunc] := ⟨by kernel_rfl⟩
instance : Scal Go.Proofs.Try.prog 83 := ⟨by kernel_rfl⟩
instance : Size Go.Proofs.Try.prog 84 1 := ⟨by kernel_rfl⟩
instance : Bytes Go.Proofs.Try.prog 84 24 := ⟨by kernel_rfl⟩
instance : Zero Go.Proofs.Try.prog 84 [.slice none 0 0] := ⟨by kernel_rfl⟩
instance : Scal Go.Proofs.Try.prog 84 := ⟨by kernel_rfl⟩
instance : Und Go.Proofs.Try.prog 84 (.slice 3) := ⟨Go.Proofs.Try.underlying84⟩
instance : Size Go.Proofs.Try.prog 85 1 := ⟨by kernel_rfl⟩
instance : Bytes Go.Proofs.Try.prog 85 24 := ⟨by kernel_rfl⟩
instance : Zero Go.Proofs.Try.prog 85 [.slice none 0 0] := ⟨by kernel_rfl⟩
instance : Scal Go.Proofs.Try.prog 85 := ⟨by kernel_rfl⟩
instance : Und Go.Proofs.Try.prog 85 (.slice 3) := ⟨Go.Proofs.Try.underlying85⟩
instance : Size Go.Proofs.Try.prog 86 7 := ⟨by kernel_rfl⟩
instance : Bytes Go.Proofs.Try.prog 86 56 := ⟨by kernel_rfl⟩
instance : Zero Go.Proofs.Try.prog 86 [.int .i64 0, .int .i64 0, .int .i64 0, .int .i64 0, .int .i64 0, .int .i64 0, .int .i64 0] := ⟨by kernel_rfl⟩
instance : Shape Go.Proofs.Try.prog 86 [.int .i64 0, .int .i64 0, .int .i64 0, .int .i64 0, .int .i64 0, .int .i64 0, .int .i64 0] [(0, 1), (1, 6)] := ⟨.inl fun _ => by kernel_rfl⟩
instance : Aggr Go.Proofs.Try.prog 86 := ⟨by kernel_rfl⟩
instance : Fld Go.Proofs.Try.prog 86 0 0 3 := ⟨by kernel_rfl⟩
instance : Fld Go.Proofs.Try.prog 86 1 1 29 := ⟨by kernel_rfl⟩
instance : Size Go.Proofs.Try.prog 87 7 := ⟨by kernel_rfl⟩
instance : Bytes Go.Proofs.Try.prog 87 56 := ⟨by kernel_rfl⟩
instance : Zero Go.Proofs.Try.prog 87 [.int .i64 0, .int .i64 0, .int .i64 0, .int .i64 0, .int .i64 0, .int .i64 0, .int .i64 0] := ⟨by kernel_rfl⟩
instance : Shape Go.Proofs.Try.prog 87 [.int .i64 0, .int .i64 0, .int .i64 0, .int .i64 0, .int .i64 0, .int .i64 0, .int .i64 0] [(0, 1), (1, 6)] := ⟨.inl fun _ => by kernel_rfl⟩
instance : Aggr Go.Proofs.Try.prog 87 := ⟨by kernel_rfl⟩
instance : Fld Go.Proofs.Try.prog 87 0 0 3 := ⟨by kernel_rfl⟩
instance : Fld Go.Proofs.Try.prog 87 1 1 29 := ⟨by kernel_rfl⟩
instance : Size Go.Proofs.Try.prog 89 1 := ⟨by kernel_rfl⟩
instance : Bytes Go.Proofs.Try.prog 89 8 := ⟨by kernel_rfl⟩
instance : Zero Go.Proofs.Try.prog 89 [.nilFunc] := ⟨by kernel_rfl⟩
instance : Scal Go.Proofs.Try.prog 89 := ⟨by kernel_rfl⟩
instance : Size Go.Proofs.Try.prog 90 1 := ⟨by kernel_rfl⟩
instance : Bytes Go.Proofs.Try.prog 90 8 := ⟨by kernel_rfl⟩
instance : Zero Go.Proofs.Try.prog 90 [.nilFunc] := ⟨by kernel_rfl⟩
instance : Scal Go.Proofs.Try.prog 90 := ⟨by kernel_rfl⟩
instance : Size Go.Proofs.Try.prog 91 1 := ⟨by kernel_rfl⟩
instance : Bytes Go.Proofs.Try.prog 91 8 := ⟨by kernel_rfl⟩
instance : Zero Go.Proofs.Try.prog 91 [.nilFunc] := ⟨by kernel_rfl⟩
instance : Scal Go.Proofs.Try.prog 91 := ⟨by kernel_rfl⟩
instance : Size Go.Proofs.Try.prog 92 1 := ⟨by kernel_rfl⟩
instance : Bytes Go.Proofs.Try.prog 92 8 := ⟨by kernel_rfl⟩
instance : Zero Go.Proofs.Try.prog 92 [.nilFunc] := ⟨by kernel_rfl⟩
instance : Scal Go.Proofs.Try.prog 92 := ⟨by kernel_rfl⟩
instance : Size Go.Proofs.Try.prog 93 1 := ⟨by kernel_rfl⟩
instance : Bytes Go.Proofs.Try.prog 93 8 := ⟨by kernel_rfl⟩
instance : Zero Go.Proofs.Try.prog 93 [.nilFunc] := ⟨by kernel_rfl⟩
instance : Scal Go.Proofs.Try.prog 93 := ⟨by kernel_rfl⟩
instance : Size Go.Proofs.Try.prog 94 1 := ⟨by kernel_rfl⟩
instance : Bytes Go.Proofs.Try.prog 94 8 := ⟨by kernel_rfl⟩
instance : Zero Go.Proofs.Try.prog 94 [.nilFunc] := ⟨by kernel_rfl⟩
instance : Scal Go.Proofs.Try.prog 94 := ⟨by kernel_rfl⟩
instance : Size Go.Proofs.Try.prog 95 1 := ⟨by kernel_rfl⟩
instance : Bytes Go.Proofs.Try.prog 95 8 := ⟨by kernel_rfl⟩
instance : Zero Go.Proofs.Try.prog 95 [.nilFunc] := ⟨by kernel_rfl⟩
instance : Scal Go.Proofs.Try.prog 95 := ⟨by kernel_rfl⟩
instance : Size Go.Proofs.Try.prog 96 1 := ⟨by kernel_rfl⟩
instance : Bytes Go.Proofs.Try.prog 96 8 := ⟨by kernel_rfl⟩
instance : Zero Go.Proofs.Try.prog 96 [.nilFunc] := ⟨by kernel_rfl⟩
instance : Scal Go.Proofs.Try.prog 96 := ⟨by kernel_rfl⟩
instance : Size Go.Proofs.Try.prog 97 1 := ⟨by kernel_rfl⟩
instance : Bytes Go.Proofs.Try.prog 97 8 := ⟨by kernel_rfl⟩
instance : Zero Go.Proofs.Try.prog 97 [.nilFunc] := ⟨by kernel_rfl⟩
instance : Scal Go.Proofs.Try.prog 97 := ⟨by kernel_rfl⟩
instance : Size Go.Proofs.Try.prog 98 1 := ⟨by kernel_rfl⟩
instance : Bytes Go.Proofs.Try.prog 98 8 := ⟨by kernel_rfl⟩
instance : Zero Go.Proofs.Try.prog 98 [.nilFunc] := ⟨by kernel_rfl⟩
instance : Scal Go.Proofs.Try.prog 98 := ⟨by kernel_rfl⟩
instance : Size Go.Proofs.Try.prog 99 1 := ⟨by kernel_rfl⟩
instance : Bytes Go.Proofs.Try.prog 99 8 := ⟨by kernel_rfl⟩
instance : Zero Go.Proofs.Try.prog 99 [.nilFunc] := ⟨by kernel_rfl⟩
instance : Scal Go.Proofs.Try.prog 99 := ⟨by kernel_rfl⟩
instance : Size Go.Proofs.Try.prog 100 1 := ⟨by kernel_rfl⟩
instance : Bytes Go.Proofs.Try.prog 100 16 := ⟨by kernel_rfl⟩
instance : Zero Go.Proofs.Try.prog 100 [.nilIface] := ⟨by kernel_rfl⟩
instance : Scal Go.Proofs.Try.prog 100 := ⟨by kernel_rfl⟩
instance : Size Go.Proofs.Try.prog 101 1 := ⟨by kernel_rfl⟩
instance : Bytes Go.Proofs.Try.prog 101 16 := ⟨by kernel_rfl⟩
instance : Zero Go.Proofs.Try.prog 101 [.nilIface] := ⟨by kernel_rfl⟩
instance : Scal Go.Proofs.Try.prog 101 := ⟨by kernel_rfl⟩
instance : Size Go.Proofs.Try.prog 102 1 := ⟨by kernel_rfl⟩
instance : Bytes Go.Proofs.Try.prog 102 8 := ⟨by kernel_rfl⟩
instance : Zero Go.Proofs.Try.prog 102 [.nilFunc] := ⟨by kernel_rfl⟩
instance : Scal Go.Proofs.Try.prog 102 := ⟨by kernel_rfl⟩
instance : Size Go.Proofs.Try.prog 103 1 := ⟨by kernel_rfl⟩
instance : Bytes Go.Proofs.Try.prog 103 8 := ⟨by kernel_rfl⟩
instance : Zero Go.Proofs.Try.prog 103 [.nilFunc] := ⟨by kernel_rfl⟩
instance : Scal Go.Proofs.Try.prog 103 := ⟨by kernel_rfl⟩
instance : Size Go.Proofs.Try.prog 104 1 := ⟨by kernel_rfl⟩
instance : Bytes Go.Proofs.Try.prog 104 8 := ⟨by kernel_rfl⟩
instance : Zero Go.Proofs.Try.prog 104 [.nilFunc] := ⟨by kernel_rfl⟩
instance : Scal Go.Proofs.Try.prog 104 := ⟨by kernel_rfl⟩
instance : Size Go.Proofs.Try.prog 105 1 := ⟨by kernel_rfl⟩
instance : Bytes Go.Proofs.Try.prog 105 8 := ⟨by kernel_rfl⟩
instance : Zero Go.Proofs.Try.prog 105 [.nilFunc] := ⟨by kernel_rfl⟩
instance : Scal Go.Proofs.Try.prog 105 := ⟨by kernel_rfl⟩
instance : Size Go.Proofs.Try.prog 106 1 := ⟨by kernel_rfl⟩
instance : Bytes Go.Proofs.Try.prog 106 8 := ⟨by kernel_rfl⟩
instance : Zero Go.Proofs.Try.prog 106 [.nilFunc] := ⟨by kernel_rfl⟩
instance : Scal Go.Proofs.Try.prog 106 := ⟨by kernel_rfl⟩
instance : Size Go.Proofs.Try.prog 107 1 := ⟨by kernel_rfl⟩
instance : Bytes Go.Proofs.Try.prog 107 16 := ⟨by kernel_rfl⟩
instance : Zero Go.Proofs.Try.prog 107 [.nilIface] := ⟨by kernel_rfl⟩
instance : Scal Go.Proofs.Try.prog 107 := ⟨by kernel_rfl⟩
instance : Size Go.Proofs.Try.prog 108 1 := ⟨by kernel_rfl⟩
instance : Bytes Go.Proofs.Try.prog 108 16 := ⟨by kernel_rfl⟩
instance : Zero Go.Proofs.Try.prog 108 [.nilIface] := ⟨by kernel_rfl⟩
instance : Scal Go.Proofs.Try.prog 108 := ⟨by kernel_rfl⟩
instance : Size Go.Proofs.Try.prog 109 1 := ⟨by kernel_rfl⟩
instance : Bytes Go.Proofs.Try.prog 109 8 := ⟨by kernel_rfl⟩
instance : Zero Go.Proofs.Try.prog 109 [.nilFunc] := ⟨by kernel_rfl⟩
instance : Scal Go.Proofs.Try.prog 109 := ⟨by kernel_rfl⟩
instance : Size Go.Proofs.Try.prog 110 1 := ⟨by kernel_rfl⟩
instance : Bytes Go.Proofs.Try.prog 110 24 := ⟨by kernel_rfl⟩
instance : Zero Go.Proofs.Try.prog 110 [.slice none 0 0] := ⟨by kernel_rfl⟩
instance : Scal Go.Proofs.Try.prog 110 := ⟨by kernel_rfl⟩
instance : Und Go.Proofs.Try.prog 110 (.slice 5) := ⟨Go.Proofs.Try.underlying110⟩
instance : Size Go.Proofs.Try.prog 111 3 := ⟨by kernel_rfl⟩
instance : Bytes Go.Proofs.Try.prog 111 40 := ⟨by kernel_rfl⟩
instance : Zero Go.Proofs.Try.prog 111 [.slice none 0 0, .int .i64 0, .int .i64 0] := ⟨by kernel_rfl⟩
instance : Shape Go.Proofs.Try.prog 111 [.slice none 0 0, .int .i64 0, .int .i64 0] [(0, 1), (1, 1), (2, 1)] := ⟨.inl fun _ => by kernel_rfl⟩
instance : Aggr Go.Proofs.Try.prog 111 := ⟨by kernel_rfl⟩
instance : Fld Go.Proofs.Try.prog 111 0 0 110 := ⟨by kernel_rfl⟩
instance : Fld Go.Proofs.Try.prog 111 1 1 3 := ⟨by kernel_rfl⟩
instance : Fld Go.Proofs.Try.prog 111 2 2 3 := ⟨by kernel_rfl⟩
instance : Size Go.Proofs.Try.prog 112 3 := ⟨by kernel_rfl⟩
instance : Bytes Go.Proofs.Try.prog 112 40 := ⟨by kernel_rfl⟩
instance : Zero Go.Proofs.Try.prog 112 [.slice none 0 0, .int .i64 0, .int .i64 0] := ⟨by kernel_rfl⟩
instance : Shape Go.Proofs.Try.prog 112 [.slice none 0 0, .int .i64 0, .int .i64 0] [(0, 1), (1, 1), (2, 1)] := ⟨.inl fun _ => by kernel_rfl⟩
instance : Aggr Go.Proofs.Try.prog 112 := ⟨by kernel_rfl⟩
instance : Fld Go.Proofs.Try.prog 112 0 0 110 := ⟨by kernel_rfl⟩
instance : Fld Go.Proofs.Try.prog 112 1 1 3 := ⟨by kernel_rfl⟩
instance : Fld Go.Proofs.Try.prog 112 2 2 3 := ⟨by kernel_rfl⟩
instance : Size Go.Proofs.Try.prog 113 1 := ⟨by kernel_rfl⟩
instance : Bytes Go.Proofs.Try.prog 113 8 := ⟨by kernel_rfl⟩
instance : Zero Go.Proofs.Try.prog 113 [.nilFunc] := ⟨by kernel_rfl⟩
instance : Scal Go.Proofs.Try.prog 113 := ⟨by kernel_rfl⟩
instance : Size Go.Proofs.Try.prog 114 4 := ⟨by kernel_rfl⟩
instance : Bytes Go.Proofs.Try.prog 114 40 := ⟨by kernel_rfl⟩
instance : Zero Go.Proofs.Try.prog 114 [.pointer none, .pointer none, .pointer none, .string ByteArray.empty] := ⟨by kernel_rfl⟩
instance : Shape Go.Proofs.Try.prog 114 [.pointer none, .pointer none, .pointer none, .string ByteArray.empty] [(0, 1), (1, 1), (2, 1), (3, 1)] := ⟨.inl fun _ => by kernel_rfl⟩
instance : Aggr Go.Proofs.Try.prog 114 := ⟨by kernel_rfl⟩
instance : Fld Go.Proofs.Try.prog 114 0 0 17 := ⟨by kernel_rfl⟩
instance : Fld Go.Proofs.Try.prog 114 1 1 17 := ⟨by kernel_rfl⟩
instance : Fld Go.Proofs.Try.prog 114 2 2 17 := ⟨by kernel_rfl⟩
instance : Fld Go.Proofs.Try.prog 114 3 3 9 := ⟨by kernel_rfl⟩
instance : Size Go.Proofs.Try.prog 116 0 := ⟨by kernel_rfl⟩
instance : Bytes Go.Proofs.Try.prog 116 0 := ⟨by kernel_rfl⟩
instance : Zero Go.Proofs.Try.prog 116 [] := ⟨by kernel_rfl⟩
instance : Shape Go.Proofs.Try.prog 116 [] [] := ⟨.inr ⟨1, by decide, fun _ => by kernel_rfl⟩⟩
instance : Aggr Go.Proofs.Try.prog 116 := ⟨by kernel_rfl⟩
instance : Und Go.Proofs.Try.prog 116 (.array 0 16) := ⟨Go.Proofs.Try.underlying116⟩
instance : Size Go.Proofs.Try.prog 117 0 := ⟨by kernel_rfl⟩
instance : Bytes Go.Proofs.Try.prog 117 0 := ⟨by kernel_rfl⟩
instance : Zero Go.Proofs.Try.prog 117 [] := ⟨by kernel_rfl⟩
instance : Shape Go.Proofs.Try.prog 117 [] [(0, 0)] := ⟨.inl fun _ => by kernel_rfl⟩
instance : Aggr Go.Proofs.Try.prog 117 := ⟨by kernel_rfl⟩
instance : Fld Go.Proofs.Try.prog 117 0 0 116 := ⟨by kernel_rfl⟩
instance : Size Go.Proofs.Try.prog 119 1 := ⟨by kernel_rfl⟩
instance : Bytes Go.Proofs.Try.prog 119 4 := ⟨by kernel_rfl⟩
instance : Zero Go.Proofs.Try.prog 119 [.int .u32 0] := ⟨by kernel_rfl⟩
instance : Scal Go.Proofs.Try.prog 119 := ⟨by kernel_rfl⟩
instance : Und Go.Proofs.Try.prog 119 (.int .u32) := ⟨Go.Proofs.Try.underlying119⟩
instance : Size Go.Proofs.Try.prog 122 1 := ⟨by kernel_rfl⟩
instance : Bytes Go.Proofs.Try.prog 122 8 := ⟨by kernel_rfl⟩
instance : Zero Go.Proofs.Try.prog 122 [.nilFunc] := ⟨by kernel_rfl⟩
instance : Scal Go.Proofs.Try.prog 122 := ⟨by kernel_rfl⟩
instance : Size Go.Proofs.Try.prog 123 1 := ⟨by kernel_rfl⟩
instance : Bytes Go.Proofs.Try.prog 123 8 := ⟨by kernel_rfl⟩
instance : Zero Go.Proofs.Try.prog 123 [.pointer none] := ⟨by kernel_rfl⟩
instance : Scal Go.Proofs.Try.prog 123 := ⟨by kernel_rfl⟩
instance : Und Go.Proofs.Try.prog 123 (.pointer 5) := ⟨Go.Proofs.Try.underlying123⟩
instance : Size Go.Proofs.Try.prog 126 11 := ⟨by kernel_rfl⟩
instance : Bytes Go.Proofs.Try.prog 126 48 := ⟨by kernel_rfl⟩
instance : Zero Go.Proofs.Try.prog 126 [.int .u64 0, .int .u64 0, .int .u32 0, .int .u8 0, .int .u8 0, .int .u8 0, .int .u8 0, .nilFunc, .pointer none, .int .i32 0, .int .i32 0] := ⟨by kernel_rfl⟩
instance : Shape Go.Proofs.Try.prog 126 [.int .u64 0, .int .u64 0, .int .u32 0, .int .u8 0, .int .u8 0, .int .u8 0, .int .u8 0, .nilFunc, .pointer none, .int .i32 0, .int .i32 0] [(0, 1), (1, 1), (2, 1), (3, 1), (4, 1), (5, 1), (6, 1), (7, 1), (8, 1), (9, 1), (10, 1)] := ⟨.inl fun _ => by kernel_rfl⟩
instance : Aggr Go.Proofs.Try.prog 126 := ⟨by kernel_rfl⟩
instance : Fld Go.Proofs.Try.prog 126 0 0 12 := ⟨by kernel_rfl⟩
instance : Fld Go.Proofs.Try.prog 126 1 1 12 := ⟨by kernel_rfl⟩
instance : Fld Go.Proofs.Try.prog 126 2 2 119 := ⟨by kernel_rfl⟩
instance : Fld Go.Proofs.Try.prog 126 3 3 120 := ⟨by kernel_rfl⟩
instance : Fld Go.Proofs.Try.prog 126 4 4 5 := ⟨by kernel_rfl⟩
instance : Fld Go.Proofs.Try.prog 126 5 5 5 := ⟨by kernel_rfl⟩
instance : Fld Go.Proofs.Try.prog 126 6 6 121 := ⟨by kernel_rfl⟩
instance : Fld Go.Proofs.Try.prog 126 7 7 122 := ⟨by kernel_rfl⟩
instance : Fld Go.Proofs.Try.prog 126 8 8 123 := ⟨by kernel_rfl⟩
instance : Fld Go.Proofs.Try.prog 126 9 9 124 := ⟨by kernel_rfl⟩
instance : Fld Go.Proofs.Try.prog 126 10 10 125 := ⟨by kernel_rfl⟩
instance : Size Go.Proofs.Try.prog 128 1 := ⟨by kernel_rfl⟩
instance : Bytes Go.Proofs.Try.prog 128 8 := ⟨by kernel_rfl⟩
instance : Zero Go.Proofs.Try.prog 128 [.pointer none] := ⟨by kernel_rfl⟩
instance : Scal Go.Proofs.Try.prog 128 := ⟨by kernel_rfl⟩
theorem eqk2 : EqK Go.Proofs.Try.prog 2 false [.int] 1 := EqK.int
theorem eqk3 : EqK Go.Proofs.Try.prog 3 false [.int] 1 := EqK.int
theorem eqk4 : EqK Go.Proofs.Try.prog 4 false [.bool] 1 := EqK.bool
theorem eqk5 : EqK Go.Proofs.Try.prog 5 false [.int] 1 := EqK.int
theorem eqk9 : EqK Go.Proofs.Try.prog 9 false [.str] 1 := EqK.string
theorem eqk12 : EqK Go.Proofs.Try.prog 12 false [.int] 1 := EqK.int
theorem eqk21 : EqK Go.Proofs.Try.prog 21 false [.int] 1 := EqK.int
theorem eqk26 : EqK Go.Proofs.Try.prog 26 true [.int, .int] 2 := by
  refine EqK.struct (ks := [.int, .int]) (dep := 1) Go.Proofs.Try.underlying26 (by kernel_rfl) rfl ?_
  refine EqF.cons (ks := [.int]) (ks' := [.int]) (by decide) rfl eqk3 (by decide) ?_
  refine EqF.cons (ks := [.int]) (ks' := []) (by decide) rfl eqk3 (by decide) ?_
  exact EqF.nil
instance : EqT Go.Proofs.Try.prog 26 [.int, .int] := ⟨by kernel_rfl, 2, by decide, eqk26⟩
theorem eqk27 : EqK Go.Proofs.Try.prog 27 true [.int, .int] 2 := by
  refine EqK.struct (ks := [.int, .int]) (dep := 1) Go.Proofs.Try.underlying27 (by kernel_rfl) rfl ?_
  refine EqF.cons (ks := [.int]) (ks' := [.int]) (by decide) rfl eqk3 (by decide) ?_
  refine EqF.cons (ks := [.int]) (ks' := []) (by decide) rfl eqk3 (by decide) ?_
  exact EqF.nil
instance : EqT Go.Proofs.Try.prog 27 [.int, .int] := ⟨by kernel_rfl, 2, by decide, eqk27⟩
theorem eqk28 : EqK Go.Proofs.Try.prog 28 true [.int, .int, .int, .int, .int, .int] 2 := by
  refine EqK.struct (ks := [.int, .int, .int, .int, .int, .int]) (dep := 1) Go.Proofs.Try.underlying28 (by kernel_rfl) rfl ?_
  refine EqF.cons (ks := [.int]) (ks' := [.int, .int, .int, .int, .int]) (by decide) rfl eqk3 (by decide) ?_
  refine EqF.cons (ks := [.int]) (ks' := [.int, .int, .int, .int]) (by decide) rfl eqk3 (by decide) ?_
  refine EqF.cons (ks := [.int]) (ks' := [.int, .int, .int]) (by decide) rfl eqk3 (by decide) ?_
  refine EqF.cons (ks := [.int]) (ks' := [.int, .int]) (by decide) rfl eqk3 (by decide) ?_
  refine EqF.cons (ks := [.int]) (ks' := [.int]) (by decide) rfl eqk3 (by decide) ?_
  refine EqF.cons (ks := [.int]) (ks' := []) (by decide) rfl eqk3 (by decide) ?_
  exact EqF.nil
instance : EqT Go.Proofs.Try.prog 28 [.int, .int, .int, .int, .int, .int] := ⟨by kernel_rfl, 2, by decide, eqk28⟩
theorem eqk29 : EqK Go.Proofs.Try.prog 29 true [.int, .int, .int, .int, .int, .int] 2 := by
  refine EqK.struct (ks := [.int, .int, .int, .int, .int, .int]) (dep := 1) Go.Proofs.Try.underlying29 (by kernel_rfl) rfl ?_
  refine EqF.cons (ks := [.int]) (ks' := [.int, .int, .int, .int, .int]) (by decide) rfl eqk3 (by decide) ?_
  refine EqF.cons (ks := [.int]) (ks' := [.int, .int, .int, .int]) (by decide) rfl eqk3 (by decide) ?_
  refine EqF.cons (ks := [.int]) (ks' := [.int, .int, .int]) (by decide) rfl eqk3 (by decide) ?_
  refine EqF.cons (ks := [.int]) (ks' := [.int, .int]) (by decide) rfl eqk3 (by decide) ?_
  refine EqF.cons (ks := [.int]) (ks' := [.int]) (by decide) rfl eqk3 (by decide) ?_
  refine EqF.cons (ks := [.int]) (ks' := []) (by decide) rfl eqk3 (by decide) ?_
  exact EqF.nil
instance : EqT Go.Proofs.Try.prog 29 [.int, .int, .int, .int, .int, .int] := ⟨by kernel_rfl, 2, by decide, eqk29⟩
theorem eqk30 : EqK Go.Proofs.Try.prog 30 true [.int, .int, .int, .int, .int, .int, .int, .int, .int, .int] 3 := by
  refine EqK.struct (ks := [.int, .int, .int, .int, .int, .int, .int, .int, .int, .int]) (dep := 2) Go.Proofs.Try.underlying30 (by kernel_rfl) rfl ?_
  refine EqF.cons (ks := [.int]) (ks' := [.int, .int, .int, .int, .int, .int, .int, .int, .int]) (by decide) rfl eqk3 (by decide) ?_
  refine EqF.cons (ks := [.int, .int]) (ks' := [.int, .int, .int, .int, .int, .int, .int]) (by decide) rfl eqk27 (by decide) ?_
  refine EqF.cons (ks := [.int, .int, .int, .int, .int, .int]) (ks' := [.int]) (by decide) rfl eqk29 (by decide) ?_
  refine EqF.cons (ks := [.int]) (ks' := []) (by decide) rfl eqk3 (by decide) ?_
  exact EqF.nil
instance : EqT Go.Proofs.Try.prog 30 [.int, .int, .int, .int, .int, .int, .int, .int, .int, .int] := ⟨by kernel_rfl, 3, by decide, eqk30⟩
theorem eqk31 : EqK Go.Proofs.Try.prog 31 true [.int, .int, .int, .int, .int, .int, .int, .int, .int, .int] 3 := by
  refine EqK.struct (ks := [.int, .int, .int, .int, .int, .int, .int, .int, .int, .int]) (dep := 2) Go.Proofs.Try.underlying31 (by kernel_rfl) rfl ?_
  refine EqF.cons (ks := [.int]) (ks' := [.int, .int, .int, .int, .int, .int, .int, .int, .int]) (by decide) rfl eqk3 (by decide) ?_
  refine EqF.cons (ks := [.int, .int]) (ks' := [.int, .int, .int, .int, .int, .int, .int]) (by decide) rfl eqk27 (by decide) ?_
  refine EqF.cons (ks := [.int, .int, .int, .int, .int, .int]) (ks' := [.int]) (by decide) rfl eqk29 (by decide) ?_
  refine EqF.cons (ks := [.int]) (ks' := []) (by decide) rfl eqk3 (by decide) ?_
  exact EqF.nil
instance : EqT Go.Proofs.Try.prog 31 [.int, .int, .int, .int, .int, .int, .int, .int, .int, .int] := ⟨by kernel_rfl, 3, by decide, eqk31⟩
theorem eqk47 : EqK Go.Proofs.Try.prog 47 true [.int, .int, .int, .int, .int, .int, .int, .int] 3 := by
  refine EqK.struct (ks := [.int, .int, .int, .int, .int, .int, .int, .int]) (dep := 2) Go.Proofs.Try.underlying47 (by kernel_rfl) rfl ?_
  refine EqF.cons (ks := [.int, .int]) (ks' := [.int, .int, .int, .int, .int, .int]) (by decide) rfl eqk27 (by decide) ?_
  refine EqF.cons (ks := [.int, .int, .int, .int, .int, .int]) (ks' := []) (by decide) rfl eqk29 (by decide) ?_
  exact EqF.nil
instance : EqT Go.Proofs.Try.prog 47 [.int, .int, .int, .int, .int, .int, .int, .int] := ⟨by kernel_rfl, 3, by decide, eqk47⟩
theorem eqk48 : EqK Go.Proofs.Try.prog 48 true [.int, .int, .int, .int, .int, .int, .int, .int] 3 := by
  refine EqK.struct (ks := [.int, .int, .int, .int, .int, .int, .int, .int]) (dep := 2) Go.Proofs.Try.underlying48 (by kernel_rfl) rfl ?_
  refine EqF.cons (ks := [.int, .int]) (ks' := [.int, .int, .int, .int, .int, .int]) (by decide) rfl eqk27 (by decide) ?_
  refine EqF.cons (ks := [.int, .int, .int, .int, .int, .int]) (ks' := []) (by decide) rfl eqk29 (by decide) ?_
  exact EqF.nil
instance : EqT Go.Proofs.Try.prog 48 [.int, .int, .int, .int, .int, .int, .int, .int] := ⟨by kernel_rfl, 3, by decide, eqk48⟩
theorem eqk58 : EqK Go.Proofs.Try.prog 58 true [.int, .int, .int, .int, .int, .int, .int] 2 := by
  refine EqK.struct (ks := [.int, .int, .int, .int, .int, .int, .int]) (dep := 1) Go.Proofs.Try.underlying58 (by kernel_rfl) rfl ?_
  refine EqF.cons (ks := [.int]) (ks' := [.int, .int, .int, .int, .int, .int]) (by decide) rfl eqk3 (by decide) ?_
  refine EqF.cons (ks := [.int]) (ks' := [.int, .int, .int, .int, .int]) (by decide) rfl eqk3 (by decide) ?_
  refine EqF.cons (ks := [.int]) (ks' := [.int, .int, .int, .int]) (by decide) rfl eqk3 (by decide) ?_
  refine EqF.cons (ks := [.int]) (ks' := [.int, .int, .int]) (by decide) rfl eqk3 (by decide) ?_
  refine EqF.cons (ks := [.int]) (ks' := [.int, .int]) (by decide) rfl eqk3 (by decide) ?_
  refine EqF.cons (ks := [.int]) (ks' := [.int]) (by decide) rfl eqk3 (by decide) ?_
  refine EqF.cons (ks := [.int]) (ks' := []) (by decide) rfl eqk3 (by decide) ?_
  exact EqF.nil
instance : EqT Go.Proofs.Try.prog 58 [.int, .int, .int, .int, .int, .int, .int] := ⟨by kernel_rfl, 2, by decide, eqk58⟩
theorem eqk59 : EqK Go.Proofs.Try.prog 59 true [.int, .int, .int, .int, .int, .int, .int] 2 := by
  refine EqK.struct (ks := [.int, .int, .int, .int, .int, .int, .int]) (dep := 1) Go.Proofs.Try.underlying59 (by kernel_rfl) rfl ?_
  refine EqF.cons (ks := [.int]) (ks' := [.int, .int, .int, .int, .int, .int]) (by decide) rfl eqk3 (by decide) ?_
  refine EqF.cons (ks := [.int]) (ks' := [.int, .int, .int, .int, .int]) (by decide) rfl eqk3 (by decide) ?_
  refine EqF.cons (ks := [.int]) (ks' := [.int, .int, .int, .int]) (by decide) rfl eqk3 (by decide) ?_
  refine EqF.cons (ks := [.int]) (ks' := [.int, .int, .int]) (by decide) rfl eqk3 (by decide) ?_
  refine EqF.cons (ks := [.int]) (ks' := [.int, .int]) (by decide) rfl eqk3 (by decide) ?_
  refine EqF.cons (ks := [.int]) (ks' := [.int]) (by decide) rfl eqk3 (by decide) ?_
  refine EqF.cons (ks := [.int]) (ks' := []) (by decide) rfl eqk3 (by decide) ?_
  exact EqF.nil
instance : EqT Go.Proofs.Try.prog 59 [.int, .int, .int, .int, .int, .int, .int] := ⟨by kernel_rfl, 2, by decide, eqk59⟩
theorem eqk62 : EqK Go.Proofs.Try.prog 62 false [.int] 1 := EqK.int
theorem eqk65 : EqK Go.Proofs.Try.prog 65 true [.int, .str, .int, .int, .int, .int, .int, .int, .int, .int, .int] 3 := by
  refine EqK.struct (ks := [.int, .str, .int, .int, .int, .int, .int, .int, .int, .int, .int]) (dep := 2) Go.Proofs.Try.underlying65 (by kernel_rfl) rfl ?_
  refine EqF.cons (ks := [.int]) (ks' := [.str, .int, .int, .int, .int, .int, .int, .int, .int, .int]) (by decide) rfl eqk3 (by decide) ?_
  refine EqF.cons (ks := [.str]) (ks' := [.int, .int, .int, .int, .int, .int, .int, .int, .int]) (by decide) rfl eqk9 (by decide) ?_
  refine EqF.cons (ks := [.int]) (ks' := [.int, .int, .int, .int, .int, .int, .int, .int]) (by decide) rfl eqk3 (by decide) ?_
  refine EqF.cons (ks := [.int, .int]) (ks' := [.int, .int, .int, .int, .int, .int]) (by decide) rfl eqk27 (by decide) ?_
  refine EqF.cons (ks := [.int, .int, .int, .int, .int, .int]) (ks' := []) (by decide) rfl eqk29 (by decide) ?_
  exact EqF.nil
instance : EqT Go.Proofs.Try.prog 65 [.int, .str, .int, .int, .int, .int, .int, .int, .int, .int, .int] := ⟨by kernel_rfl, 3, by decide, eqk65⟩
theorem eqk66 : EqK Go.Proofs.Try.prog 66 true [.int, .str, .int, .int, .int, .int, .int, .int, .int, .int, .int] 3 := by
  refine EqK.struct (ks := [.int, .str, .int, .int, .int, .int, .int, .int, .int, .int, .int]) (dep := 2) Go.Proofs.Try.underlying66 (by kernel_rfl) rfl ?_
  refine EqF.cons (ks := [.int]) (ks' := [.str, .int, .int, .int, .int, .int, .int, .int, .int, .int]) (by decide) rfl eqk3 (by decide) ?_
  refine EqF.cons (ks := [.str]) (ks' := [.int, .int, .int, .int, .int, .int, .int, .int, .int]) (by decide) rfl eqk9 (by decide) ?_
  refine EqF.cons (ks := [.int]) (ks' := [.int, .int, .int, .int, .int, .int, .int, .int]) (by decide) rfl eqk3 (by decide) ?_
  refine EqF.cons (ks := [.int, .int]) (ks' := [.int, .int, .int, .int, .int, .int]) (by decide) rfl eqk27 (by decide) ?_
  refine EqF.cons (ks := [.int, .int, .int, .int, .int, .int]) (ks' := []) (by decide) rfl eqk29 (by decide) ?_
  exact EqF.nil
instance : EqT Go.Proofs.Try.prog 66 [.int, .str, .int, .int, .int, .int, .int, .int, .int, .int, .int] := ⟨by kernel_rfl, 3, by decide, eqk66⟩
theorem eqk74 : EqK Go.Proofs.Try.prog 74 true [.int, .int] 2 := (EqK.array (k := 2) rfl eqk3 : EqK Go.Proofs.Try.prog 74 true (repl [.int] 2) 2)
instance : EqT Go.Proofs.Try.prog 74 [.int, .int] := ⟨by kernel_rfl, 2, by decide, eqk74⟩
theorem eqk86 : EqK Go.Proofs.Try.prog 86 true [.int, .int, .int, .int, .int, .int, .int] 3 := by
  refine EqK.struct (ks := [.int, .int, .int, .int, .int, .int, .int]) (dep := 2) Go.Proofs.Try.underlying86 (by kernel_rfl) rfl ?_
  refine EqF.cons (ks := [.int]) (ks' := [.int, .int, .int, .int, .int, .int]) (by decide) rfl eqk3 (by decide) ?_
  refine EqF.cons (ks := [.int, .int, .int, .int, .int, .int]) (ks' := []) (by decide) rfl eqk29 (by decide) ?_
  exact EqF.nil
instance : EqT Go.Proofs.Try.prog 86 [.int, .int, .int, .int, .int, .int, .int] := ⟨by kernel_rfl, 3, by decide, eqk86⟩
theorem eqk87 : EqK Go.Proofs.Try.prog 87 true [.int, .int, .int, .int, .int, .int, .int] 3 := by
  refine EqK.struct (ks := [.int, .int, .int, .int, .int, .int, .int]) (dep := 2) Go.Proofs.Try.underlying87 (by kernel_rfl) rfl ?_
  refine EqF.cons (ks := [.int]) (ks' := [.int, .int, .int, .int, .int, .int]) (by decide) rfl eqk3 (by decide) ?_
  refine EqF.cons (ks := [.int, .int, .int, .int, .int, .int]) (ks' := []) (by decide) rfl eqk29 (by decide) ?_
  exact EqF.nil
instance : EqT Go.Proofs.Try.prog 87 [.int, .int, .int, .int, .int, .int, .int] := ⟨by kernel_rfl, 3, by decide, eqk87⟩
theorem eqk119 : EqK Go.Proofs.Try.prog 119 false [.int] 1 := EqK.int
instance : Fun Go.Proofs.Try.prog 3 Go.Proofs.Try.f3 := ⟨Go.Proofs.Try.func3, by kernel_rfl, by kernel_rfl⟩
instance : Fun Go.Proofs.Try.prog 4 Go.Proofs.Try.f4 := ⟨Go.Proofs.Try.func4, by kernel_rfl, by kernel_rfl⟩
instance : Fun Go.Proofs.Try.prog 5 Go.Proofs.Try.f5 := ⟨Go.Proofs.Try.func5, by kernel_rfl, by kernel_rfl⟩
instance : Fun Go.Proofs.Try.prog 6 Go.Proofs.Try.f6 := ⟨Go.Proofs.Try.func6, by kernel_rfl, by kernel_rfl⟩
instance : Fun Go.Proofs.Try.prog 7 Go.Proofs.Try.f7 := ⟨Go.Proofs.Try.func7, by kernel_rfl, by kernel_rfl⟩
instance : Fun Go.Proofs.Try.prog 8 Go.Proofs.Try.f8 := ⟨Go.Proofs.Try.func8, by kernel_rfl, by kernel_rfl⟩
instance : Fun Go.Proofs.Try.prog 9 Go.Proofs.Try.f9 := ⟨Go.Proofs.Try.func9, by kernel_rfl, by kernel_rfl⟩
instance : Fun Go.Proofs.Try.prog 10 Go.Proofs.Try.f10 := ⟨Go.Proofs.Try.func10, by kernel_rfl, by kernel_rfl⟩
instance : Fun Go.Proofs.Try.prog 11 Go.Proofs.Try.f11 := ⟨Go.Proofs.Try.func11, by kernel_rfl, by kernel_rfl⟩
instance : Fun Go.Proofs.Try.prog 12 Go.Proofs.Try.f12 := ⟨Go.Proofs.Try.func12, by kernel_rfl, by kernel_rfl⟩
instance : Fun Go.Proofs.Try.prog 13 Go.Proofs.Try.f13 := ⟨Go.Proofs.Try.func13, by kernel_rfl, by kernel_rfl⟩
instance : Fun Go.Proofs.Try.prog 14 Go.Proofs.Try.f14 := ⟨Go.Proofs.Try.func14, by kernel_rfl, by kernel_rfl⟩
instance : Fun Go.Proofs.Try.prog 15 Go.Proofs.Try.f15 := ⟨Go.Proofs.Try.func15, by kernel_rfl, by kernel_rfl⟩
instance : Fun Go.Proofs.Try.prog 16 Go.Proofs.Try.f16 := ⟨Go.Proofs.Try.func16, by kernel_rfl, by kernel_rfl⟩
instance : Fun Go.Proofs.Try.prog 17 Go.Proofs.Try.f17 := ⟨Go.Proofs.Try.func17, by kernel_rfl, by kernel_rfl⟩
instance : Fun Go.Proofs.Try.prog 18 Go.Proofs.Try.f18 := ⟨Go.Proofs.Try.func18, by kernel_rfl, by kernel_rfl⟩
instance : Fun Go.Proofs.Try.prog 19 Go.Proofs.Try.f19 := ⟨Go.Proofs.Try.func19, by kernel_rfl, by kernel_rfl⟩
instance : Fun Go.Proofs.Try.prog 20 Go.Proofs.Try.f20 := ⟨Go.Proofs.Try.func20, by kernel_rfl, by kernel_rfl⟩
instance : Fun Go.Proofs.Try.prog 21 Go.Proofs.Try.f21 := ⟨Go.Proofs.Try.func21, by kernel_rfl, by kernel_rfl⟩
instance : Fun Go.Proofs.Try.prog 22 Go.Proofs.Try.f22 := ⟨Go.Proofs.Try.func22, by kernel_rfl, by kernel_rfl⟩
instance : Fun Go.Proofs.Try.prog 23 Go.Proofs.Try.f23 := ⟨Go.Proofs.Try.func23, by kernel_rfl, by kernel_rfl⟩
instance : Fun Go.Proofs.Try.prog 24 Go.Proofs.Try.f24 := ⟨Go.Proofs.Try.func24, by kernel_rfl, by kernel_rfl⟩
instance : Fun Go.Proofs.Try.prog 25 Go.Proofs.Try.f25 := ⟨Go.Proofs.Try.func25, by kernel_rfl, by kernel_rfl⟩
instance : Fun Go.Proofs.Try.prog 26 Go.Proofs.Try.f26 := ⟨Go.Proofs.Try.func26, by kernel_rfl, by kernel_rfl⟩
instance : Fun Go.Proofs.Try.prog 27 Go.Proofs.Try.f27 := ⟨Go.Proofs.Try.func27, by kernel_rfl, by kernel_rfl⟩
instance : Fun Go.Proofs.Try.prog 28 Go.Proofs.Try.f28 := ⟨Go.Proofs.Try.func28, by kernel_rfl, by kernel_rfl⟩
instance : Fun Go.Proofs.Try.prog 29 Go.Proofs.Try.f29 := ⟨Go.Proofs.Try.func29, by kernel_rfl, by kernel_rfl⟩
instance : Fun Go.Proofs.Try.prog 30 Go.Proofs.Try.f30 := ⟨Go.Proofs.Try.func30, by kernel_rfl, by kernel_rfl⟩
instance : Fun Go.Proofs.Try.prog 31 Go.Proofs.Try.f31 := ⟨Go.Proofs.Try.func31, by kernel_rfl, by kernel_rfl⟩
instance : Fun Go.Proofs.Try.prog 32 Go.Proofs.Try.f32 := ⟨Go.Proofs.Try.func32, by kernel_rfl, by kernel_rfl⟩
instance : Fun Go.Proofs.Try.prog 33 Go.Proofs.Try.f33 := ⟨Go.Proofs.Try.func33, by kernel_rfl, by kernel_rfl⟩
instance : Fun Go.Proofs.Try.prog 34 Go.Proofs.Try.f34 := ⟨Go.Proofs.Try.func34, by kernel_rfl, by kernel_rfl⟩
instance : Fun Go.Proofs.Try.prog 35 Go.Proofs.Try.f35 := ⟨Go.Proofs.Try.func35, by kernel_rfl, by kernel_rfl⟩
instance : Fun Go.Proofs.Try.prog 36 Go.Proofs.Try.f36 := ⟨Go.Proofs.Try.func36, by kernel_rfl, by kernel_rfl⟩
instance : Fun Go.Proofs.Try.prog 37 Go.Proofs.Try.f37 := ⟨Go.Proofs.Try.func37, by kernel_rfl, by kernel_rfl⟩
instance : Fun Go.Proofs.Try.prog 38 Go.Proofs.Try.f38 := ⟨Go.Proofs.Try.func38, by kernel_rfl, by kernel_rfl⟩
instance : Fun Go.Proofs.Try.prog 39 Go.Proofs.Try.f39 := ⟨Go.Proofs.Try.func39, by kernel_rfl, by kernel_rfl⟩
instance : Fun Go.Proofs.Try.prog 40 Go.Proofs.Try.f40 := ⟨Go.Proofs.Try.func40, by kernel_rfl, by kernel_rfl⟩
instance : Fun Go.Proofs.Try.prog 41 Go.Proofs.Try.f41 := ⟨Go.Proofs.Try.func41, by kernel_rfl, by kernel_rfl⟩
instance : Fun Go.Proofs.Try.prog 42 Go.Proofs.Try.f42 := ⟨Go.Proofs.Try.func42, by kernel_rfl, by kernel_rfl⟩
instance : Fun Go.Proofs.Try.prog 43 Go.Proofs.Try.f43 := ⟨Go.Proofs.Try.func43, by kernel_rfl, by kernel_rfl⟩
instance : Fun Go.Proofs.Try.prog 44 Go.Proofs.Try.f44 := ⟨Go.Proofs.Try.func44, by kernel_rfl, by kernel_rfl⟩
instance : Fun Go.Proofs.Try.prog 45 Go.Proofs.Try.f45 := ⟨Go.Proofs.Try.func45, by kernel_rfl, by kernel_rfl⟩
instance : Fun Go.Proofs.Try.prog 46 Go.Proofs.Try.f46 := ⟨Go.Proofs.Try.func46, by kernel_rfl, by kernel_rfl⟩
instance : Fun Go.Proofs.Try.prog 47 Go.Proofs.Try.f47 := ⟨Go.Proofs.Try.func47, by kernel_rfl, by kernel_rfl⟩
instance : Fun Go.Proofs.Try.prog 48 Go.Proofs.Try.f48 := ⟨Go.Proofs.Try.func48, by kernel_rfl, by kernel_rfl⟩
instance : Fun Go.Proofs.Try.prog 49 Go.Proofs.Try.f49 := ⟨Go.Proofs.Try.func49, by kernel_rfl, by kernel_rfl⟩
instance : Fun Go.Proofs.Try.prog 50 Go.Proofs.Try.f50 := ⟨Go.Proofs.Try.func50, by kernel_rfl, by kernel_rfl⟩
instance : Fun Go.Proofs.Try.prog 51 Go.Proofs.Try.f51 := ⟨Go.Proofs.Try.func51, by kernel_rfl, by kernel_rfl⟩
instance : Fun Go.Proofs.Try.prog 52 Go.Proofs.Try.f52 := ⟨Go.Proofs.Try.func52, by kernel_rfl, by kernel_rfl⟩
instance : Fun Go.Proofs.Try.prog 53 Go.Proofs.Try.f53 := ⟨Go.Proofs.Try.func53, by kernel_rfl, by kernel_rfl⟩
instance : Fun Go.Proofs.Try.prog 54 Go.Proofs.Try.f54 := ⟨Go.Proofs.Try.func54, by kernel_rfl, by kernel_rfl⟩
instance : Fun Go.Proofs.Try.prog 55 Go.Proofs.Try.f55 := ⟨Go.Proofs.Try.func55, by kernel_rfl, by kernel_rfl⟩
instance : Fun Go.Proofs.Try.prog 56 Go.Proofs.Try.f56 := ⟨Go.Proofs.Try.func56, by kernel_rfl, by kernel_rfl⟩
instance : Fun Go.Proofs.Try.prog 57 Go.Proofs.Try.f57 := ⟨Go.Proofs.Try.func57, by kernel_rfl, by kernel_rfl⟩
instance : Fun Go.Proofs.Try.prog 58 Go.Proofs.Try.f58 := ⟨Go.Proofs.Try.func58, by kernel_rfl, by kernel_rfl⟩
instance : Fun Go.Proofs.Try.prog 59 Go.Proofs.Try.f59 := ⟨Go.Proofs.Try.func59, by kernel_rfl, by kernel_rfl⟩
instance : Fun Go.Proofs.Try.prog 60 Go.Proofs.Try.f60 := ⟨Go.Proofs.Try.func60, by kernel_rfl, by kernel_rfl⟩
instance : Fun Go.Proofs.Try.prog 61 Go.Proofs.Try.f61 := ⟨Go.Proofs.Try.func61, by kernel_rfl, by kernel_rfl⟩
instance : Fun Go.Proofs.Try.prog 62 Go.Proofs.Try.f62 := ⟨Go.Proofs.Try.func62, by kernel_rfl, by kernel_rfl⟩
instance : Fun Go.Proofs.Try.prog 63 Go.Proofs.Try.f63 := ⟨Go.Proofs.Try.func63, by kernel_rfl, by kernel_rfl⟩
instance : Fun Go.Proofs.Try.prog 64 Go.Proofs.Try.f64 := ⟨Go.Proofs.Try.func64, by kernel_rfl, by kernel_rfl⟩
instance : Fun Go.Proofs.Try.prog 65 Go.Proofs.Try.f65 := ⟨Go.Proofs.Try.func65, by kernel_rfl, by kernel_rfl⟩
instance : Fun Go.Proofs.Try.prog 66 Go.Proofs.Try.f66 := ⟨Go.Proofs.Try.func66, by kernel_rfl, by kernel_rfl⟩
instance : Fun Go.Proofs.Try.prog 67 Go.Proofs.Try.f67 := ⟨Go.Proofs.Try.func67, by kernel_rfl, by kernel_rfl⟩
instance : Fun Go.Proofs.Try.prog 68 Go.Proofs.Try.f68 := ⟨Go.Proofs.Try.func68, by kernel_rfl, by kernel_rfl⟩
instance : Fun Go.Proofs.Try.prog 69 Go.Proofs.Try.f69 := ⟨Go.Proofs.Try.func69, by kernel_rfl, by kernel_rfl⟩
instance : Fun Go.Proofs.Try.prog 70 Go.Proofs.Try.f70 := ⟨Go.Proofs.Try.func70, by kernel_rfl, by kernel_rfl⟩
instance : Fun Go.Proofs.Try.prog 71 Go.Proofs.Try.f71 := ⟨Go.Proofs.Try.func71, by kernel_rfl, by kernel_rfl⟩
instance : Fun Go.Proofs.Try.prog 73 Go.Proofs.Try.f73 := ⟨Go.Proofs.Try.func73, by kernel_rfl, by kernel_rfl⟩
instance : Fun Go.Proofs.Try.prog 74 Go.Proofs.Try.f74 := ⟨Go.Proofs.Try.func74, by kernel_rfl, by kernel_rfl⟩
instance : Fun Go.Proofs.Try.prog 75 Go.Proofs.Try.f75 := ⟨Go.Proofs.Try.func75, by kernel_rfl, by kernel_rfl⟩
instance : Fun Go.Proofs.Try.prog 76 Go.Proofs.Try.f76 := ⟨Go.Proofs.Try.func76, by kernel_rfl, by kernel_rfl⟩
instance : Fun Go.Proofs.Try.prog 77 Go.Proofs.Try.f77 := ⟨Go.Proofs.Try.func77, by kernel_rfl, by kernel_rfl⟩
instance : Fun Go.Proofs.Try.prog 78 Go.Proofs.Try.f78 := ⟨Go.Proofs.Try.func78, by kernel_rfl, by kernel_rfl⟩
instance : Fun Go.Proofs.Try.prog 95 Go.Proofs.Try.f95 := ⟨Go.Proofs.Try.func95, by kernel_rfl, by kernel_rfl⟩
instance : Fun Go.Proofs.Try.prog 96 Go.Proofs.Try.f96 := ⟨Go.Proofs.Try.func96, by kernel_rfl, by kernel_rfl⟩
instance : Fun Go.Proofs.Try.prog 97 Go.Proofs.Try.f97 := ⟨Go.Proofs.Try.func97, by kernel_rfl, by kernel_rfl⟩
instance : Fun Go.Proofs.Try.prog 98 Go.Proofs.Try.f98 := ⟨Go.Proofs.Try.func98, by kernel_rfl, by kernel_rfl⟩
instance : Fun Go.Proofs.Try.prog 99 Go.Proofs.Try.f99 := ⟨Go.Proofs.Try.func99, by kernel_rfl, by kernel_rfl⟩
end Go.Proofs.Ytdjepfpmoeecaaa.Ty

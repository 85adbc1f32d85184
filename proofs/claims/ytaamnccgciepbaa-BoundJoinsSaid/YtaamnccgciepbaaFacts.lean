/- Closed facts of the types, by program (wip/t/facts.py). -/
import Derived.Test.YtaamnccgciepbaaOps
import Derived.Test.YtaamnccgciepbaaProg
namespace Go.Proofs.Ytaamnccgciepbaa.Ty
open Go Go.RowKit
set_option linter.unusedVariables false
instance : Size Go.Proofs.Try.prog 1 1 := ⟨by kernel_rfl⟩
instance : Bytes Go.Proofs.Try.prog 1 8 := ⟨by kernel_rfl⟩
instance : Zero Go.Proofs.Try.prog 1 [.nilFunc] := ⟨by kernel_rfl⟩
instance : Scal Go.Proofs.Try.prog 1 := ⟨by kernel_rfl⟩
instance : Size Go.Proofs.Try.prog 2 1 := ⟨by kernel_rfl⟩
instance : Bytes Go.Proofs.Try.prog 2 8 := ⟨by kernel_rfl⟩
instance : Zero Go.Proofs.Try.prog 2 [.int .i64 0] := ⟨by kernel_rfl⟩
instance : Scal Go.Proofs.Try.prog 2 := ⟨by kernel_rfl⟩
instance : Und Go.Proofs.Try.prog 2 (.int .i64) := ⟨Go.Proofs.Try.underlying2⟩
instance : Size Go.Proofs.Try.prog 3 1 := ⟨by kernel_rfl⟩
instance : Bytes Go.Proofs.Try.prog 3 8 := ⟨by kernel_rfl⟩
instance : Zero Go.Proofs.Try.prog 3 [.int .i64 0] := ⟨by kernel_rfl⟩
instance : Scal Go.Proofs.Try.prog 3 := ⟨by kernel_rfl⟩
instance : Und Go.Proofs.Try.prog 3 (.int .i64) := ⟨Go.Proofs.Try.underlying3⟩
instance : Size Go.Proofs.Try.prog 4 1 := ⟨by kernel_rfl⟩
instance : Bytes Go.Proofs.Try.prog 4 1 := ⟨by kernel_rfl⟩
instance : Zero Go.Proofs.Try.prog 4 [.bool false] := ⟨by kernel_rfl⟩
instance : Scal Go.Proofs.Try.prog 4 := ⟨by kernel_rfl⟩
instance : Und Go.Proofs.Try.prog 4 .bool := ⟨Go.Proofs.Try.underlying4⟩
instance : Size Go.Proofs.Try.prog 5 1 := ⟨by kernel_rfl⟩
instance : Bytes Go.Proofs.Try.prog 5 1 := ⟨by kernel_rfl⟩
instance : Zero Go.Proofs.Try.prog 5 [.int .u8 0] := ⟨by kernel_rfl⟩
instance : Scal Go.Proofs.Try.prog 5 := ⟨by kernel_rfl⟩
instance : Und Go.Proofs.Try.prog 5 (.int .u8) := ⟨Go.Proofs.Try.underlying5⟩
instance : Size Go.Proofs.Try.prog 7 4 := ⟨by kernel_rfl⟩
instance : Bytes Go.Proofs.Try.prog 7 24 := ⟨by kernel_rfl⟩
instance : Zero Go.Proofs.Try.prog 7 [.int .i64 0, .int .i64 0, .bool false, .int .u8 0] := ⟨by kernel_rfl⟩
instance : Shape Go.Proofs.Try.prog 7 [.int .i64 0, .int .i64 0, .bool false, .int .u8 0] [(0, 1), (1, 1), (2, 1), (3, 1)] := ⟨.inl fun _ => by kernel_rfl⟩
instance : Aggr Go.Proofs.Try.prog 7 := ⟨by kernel_rfl⟩
instance : Fld Go.Proofs.Try.prog 7 0 0 2 := ⟨by kernel_rfl⟩
instance : Fld Go.Proofs.Try.prog 7 1 1 3 := ⟨by kernel_rfl⟩
instance : Fld Go.Proofs.Try.prog 7 2 2 4 := ⟨by kernel_rfl⟩
instance : Fld Go.Proofs.Try.prog 7 3 3 6 := ⟨by kernel_rfl⟩
instance : Size Go.Proofs.Try.prog 9 1 := ⟨by kernel_rfl⟩
instance : Bytes Go.Proofs.Try.prog 9 16 := ⟨by kernel_rfl⟩
instance : Zero Go.Proofs.Try.prog 9 [.string ByteArray.empty] := ⟨by kernel_rfl⟩
instance : Scal Go.Proofs.Try.prog 9 := ⟨by kernel_rfl⟩
instance : Und Go.Proofs.Try.prog 9 .string := ⟨Go.Proofs.Try.underlying9⟩
instance : Size Go.Proofs.Try.prog 12 1 := ⟨by kernel_rfl⟩
instance : Bytes Go.Proofs.Try.prog 12 8 := ⟨by kernel_rfl⟩
instance : Zero Go.Proofs.Try.prog 12 [.int .u64 0] := ⟨by kernel_rfl⟩
instance : Scal Go.Proofs.Try.prog 12 := ⟨by kernel_rfl⟩
instance : Und Go.Proofs.Try.prog 12 (.int .u64) := ⟨Go.Proofs.Try.underlying12⟩
instance : Size Go.Proofs.Try.prog 13 2 := ⟨by kernel_rfl⟩
instance : Bytes Go.Proofs.Try.prog 13 24 := ⟨by kernel_rfl⟩
instance : Zero Go.Proofs.Try.prog 13 [.string ByteArray.empty, .int .u64 0] := ⟨by kernel_rfl⟩
instance : Shape Go.Proofs.Try.prog 13 [.string ByteArray.empty, .int .u64 0] [(0, 1), (1, 1)] := ⟨.inl fun _ => by kernel_rfl⟩
instance : Aggr Go.Proofs.Try.prog 13 := ⟨by kernel_rfl⟩
instance : Fld Go.Proofs.Try.prog 13 0 0 9 := ⟨by kernel_rfl⟩
instance : Fld Go.Proofs.Try.prog 13 1 1 12 := ⟨by kernel_rfl⟩
instance : Size Go.Proofs.Try.prog 15 1 := ⟨by kernel_rfl⟩
instance : Bytes Go.Proofs.Try.prog 15 8 := ⟨by kernel_rfl⟩
instance : Zero Go.Proofs.Try.prog 15 [.pointer none] := ⟨by kernel_rfl⟩
instance : Scal Go.Proofs.Try.prog 15 := ⟨by kernel_rfl⟩
instance : Und Go.Proofs.Try.prog 15 (.pointer 56) := ⟨Go.Proofs.Try.underlying15⟩
instance : Size Go.Proofs.Try.prog 16 1 := ⟨by kernel_rfl⟩
instance : Bytes Go.Proofs.Try.prog 16 8 := ⟨by kernel_rfl⟩
instance : Zero Go.Proofs.Try.prog 16 [.pointer none] := ⟨by kernel_rfl⟩
instance : Scal Go.Proofs.Try.prog 16 := ⟨by kernel_rfl⟩
instance : Und Go.Proofs.Try.prog 16 (.pointer 59) := ⟨Go.Proofs.Try.underlying16⟩
instance : Size Go.Proofs.Try.prog 17 1 := ⟨by kernel_rfl⟩
instance : Bytes Go.Proofs.Try.prog 17 8 := ⟨by kernel_rfl⟩
instance : Zero Go.Proofs.Try.prog 17 [.pointer none] := ⟨by kernel_rfl⟩
instance : Scal Go.Proofs.Try.prog 17 := ⟨by kernel_rfl⟩
instance : Und Go.Proofs.Try.prog 17 (.pointer 69) := ⟨Go.Proofs.Try.underlying17⟩
instance : Size Go.Proofs.Try.prog 18 1 := ⟨by kernel_rfl⟩
instance : Bytes Go.Proofs.Try.prog 18 8 := ⟨by kernel_rfl⟩
instance : Zero Go.Proofs.Try.prog 18 [.pointer none] := ⟨by kernel_rfl⟩
instance : Shape Go.Proofs.Try.prog 18 [.pointer none] [(0, 1)] := ⟨.inl fun _ => by kernel_rfl⟩
instance : Aggr Go.Proofs.Try.prog 18 := ⟨by kernel_rfl⟩
instance : Fld Go.Proofs.Try.prog 18 0 0 17 := ⟨by kernel_rfl⟩
instance : Size Go.Proofs.Try.prog 20 1 := ⟨by kernel_rfl⟩
instance : Bytes Go.Proofs.Try.prog 20 16 := ⟨by kernel_rfl⟩
instance : Zero Go.Proofs.Try.prog 20 [.nilIface] := ⟨by kernel_rfl⟩
instance : Scal Go.Proofs.Try.prog 20 := ⟨by kernel_rfl⟩
instance : Size Go.Proofs.Try.prog 21 1 := ⟨by kernel_rfl⟩
instance : Bytes Go.Proofs.Try.prog 21 4 := ⟨by kernel_rfl⟩
instance : Zero Go.Proofs.Try.prog 21 [.int .i32 0] := ⟨by kernel_rfl⟩
instance : Scal Go.Proofs.Try.prog 21 := ⟨by kernel_rfl⟩
instance : Und Go.Proofs.Try.prog 21 (.int .i32) := ⟨Go.Proofs.Try.underlying21⟩
instance : Size Go.Proofs.Try.prog 22 1 := ⟨by kernel_rfl⟩
instance : Bytes Go.Proofs.Try.prog 22 24 := ⟨by kernel_rfl⟩
instance : Zero Go.Proofs.Try.prog 22 [.slice none 0 0] := ⟨by kernel_rfl⟩
instance : Scal Go.Proofs.Try.prog 22 := ⟨by kernel_rfl⟩
instance : Und Go.Proofs.Try.prog 22 (.slice 42) := ⟨Go.Proofs.Try.underlying22⟩
instance : Size Go.Proofs.Try.prog 23 3 := ⟨by kernel_rfl⟩
instance : Bytes Go.Proofs.Try.prog 23 24 := ⟨by kernel_rfl⟩
instance : Zero Go.Proofs.Try.prog 23 [.int .i64 0, .int .i64 0, .int .i64 0] := ⟨by kernel_rfl⟩
instance : Shape Go.Proofs.Try.prog 23 [.int .i64 0, .int .i64 0, .int .i64 0] [(0, 1), (1, 1), (2, 1)] := ⟨.inr ⟨1, by decide, fun _ => by kernel_rfl⟩⟩
instance : Aggr Go.Proofs.Try.prog 23 := ⟨by kernel_rfl⟩
instance : Und Go.Proofs.Try.prog 23 (.array 3 3) := ⟨Go.Proofs.Try.underlying23⟩
instance : Size Go.Proofs.Try.prog 24 1 := ⟨by kernel_rfl⟩
instance : Bytes Go.Proofs.Try.prog 24 8 := ⟨by kernel_rfl⟩
instance : Zero Go.Proofs.Try.prog 24 [.nilFunc] := ⟨by kernel_rfl⟩
instance : Scal Go.Proofs.Try.prog 24 := ⟨by kernel_rfl⟩
instance : Size Go.Proofs.Try.prog 26 1 := ⟨by kernel_rfl⟩
instance : Bytes Go.Proofs.Try.prog 26 8 := ⟨by kernel_rfl⟩
instance : Zero Go.Proofs.Try.prog 26 [.nilFunc] := ⟨by kernel_rfl⟩
instance : Scal Go.Proofs.Try.prog 26 := ⟨by kernel_rfl⟩
instance : Size Go.Proofs.Try.prog 27 1 := ⟨by kernel_rfl⟩
instance : Bytes Go.Proofs.Try.prog 27 8 := ⟨by kernel_rfl⟩
instance : Zero Go.Proofs.Try.prog 27 [.nilFunc] := ⟨by kernel_rfl⟩
instance : Scal Go.Proofs.Try.prog 27 := ⟨by kernel_rfl⟩
instance : Size Go.Proofs.Try.prog 28 1 := ⟨by kernel_rfl⟩
instance : Bytes Go.Proofs.Try.prog 28 8 := ⟨by kernel_rfl⟩
instance : Zero Go.Proofs.Try.prog 28 [.nilFunc] := ⟨by kernel_rfl⟩
instance : Scal Go.Proofs.Try.prog 28 := ⟨by kernel_rfl⟩
instance : Size Go.Proofs.Try.prog 29 1 := ⟨by kernel_rfl⟩
instance : Bytes Go.Proofs.Try.prog 29 8 := ⟨by kernel_rfl⟩
instance : Zero Go.Proofs.Try.prog 29 [.nilFunc] := ⟨by kernel_rfl⟩
instance : Scal Go.Proofs.Try.prog 29 := ⟨by kernel_rfl⟩
instance : Size Go.Proofs.Try.prog 30 2 := ⟨by kernel_rfl⟩
instance : Bytes Go.Proofs.Try.prog 30 16 := ⟨by kernel_rfl⟩
instance : Zero Go.Proofs.Try.prog 30 [.int .i64 0, .int .i64 0] := ⟨by kernel_rfl⟩
instance : Shape Go.Proofs.Try.prog 30 [.int .i64 0, .int .i64 0] [(0, 1), (1, 1)] := ⟨.inr ⟨1, by decide, fun _ => by kernel_rfl⟩⟩
instance : Aggr Go.Proofs.Try.prog 30 := ⟨by kernel_rfl⟩
instance : Und Go.Proofs.Try.prog 30 (.array 2 3) := ⟨Go.Proofs.Try.underlying30⟩
instance : Size Go.Proofs.Try.prog 31 1 := ⟨by kernel_rfl⟩
instance : Bytes Go.Proofs.Try.prog 31 8 := ⟨by kernel_rfl⟩
instance : Zero Go.Proofs.Try.prog 31 [.nilFunc] := ⟨by kernel_rfl⟩
instance : Scal Go.Proofs.Try.prog 31 := ⟨by kernel_rfl⟩
instance : Size Go.Proofs.Try.prog 32 7 := ⟨by kernel_rfl⟩
instance : Bytes Go.Proofs.Try.prog 32 56 := ⟨by kernel_rfl⟩
instance : Zero Go.Proofs.Try.prog 32 [.int .i64 0, .int .i64 0, .int .i64 0, .int .i64 0, .int .i64 0, .int .i64 0, .int .i64 0] := ⟨by kernel_rfl⟩
instance : Shape Go.Proofs.Try.prog 32 [.int .i64 0, .int .i64 0, .int .i64 0, .int .i64 0, .int .i64 0, .int .i64 0, .int .i64 0] [(0, 1), (1, 1), (2, 1), (3, 1), (4, 1), (5, 1), (6, 1)] := ⟨.inl fun _ => by kernel_rfl⟩
instance : Aggr Go.Proofs.Try.prog 32 := ⟨by kernel_rfl⟩
instance : Fld Go.Proofs.Try.prog 32 0 0 3 := ⟨by kernel_rfl⟩
instance : Fld Go.Proofs.Try.prog 32 1 1 3 := ⟨by kernel_rfl⟩
instance : Fld Go.Proofs.Try.prog 32 2 2 3 := ⟨by kernel_rfl⟩
instance : Fld Go.Proofs.Try.prog 32 3 3 3 := ⟨by kernel_rfl⟩
instance : Fld Go.Proofs.Try.prog 32 4 4 3 := ⟨by kernel_rfl⟩
instance : Fld Go.Proofs.Try.prog 32 5 5 3 := ⟨by kernel_rfl⟩
instance : Fld Go.Proofs.Try.prog 32 6 6 3 := ⟨by kernel_rfl⟩
instance : Size Go.Proofs.Try.prog 33 7 := ⟨by kernel_rfl⟩
instance : Bytes Go.Proofs.Try.prog 33 56 := ⟨by kernel_rfl⟩
instance : Zero Go.Proofs.Try.prog 33 [.int .i64 0, .int .i64 0, .int .i64 0, .int .i64 0, .int .i64 0, .int .i64 0, .int .i64 0] := ⟨by kernel_rfl⟩
instance : Shape Go.Proofs.Try.prog 33 [.int .i64 0, .int .i64 0, .int .i64 0, .int .i64 0, .int .i64 0, .int .i64 0, .int .i64 0] [(0, 1), (1, 1), (2, 1), (3, 1), (4, 1), (5, 1), (6, 1)] := ⟨.inl fun _ => by kernel_rfl⟩
instance : Aggr Go.Proofs.Try.prog 33 := ⟨by kernel_rfl⟩
instance : Fld Go.Proofs.Try.prog 33 0 0 3 := ⟨by kernel_rfl⟩
instance : Fld Go.Proofs.Try.prog 33 1 1 3 := ⟨by kernel_rfl⟩
instance : Fld Go.Proofs.Try.prog 33 2 2 3 := ⟨by kernel_rfl⟩
instance : Fld Go.Proofs.Try.prog 33 3 3 3 := ⟨by kernel_rfl⟩
instance : Fld Go.Proofs.Try.prog 33 4 4 3 := ⟨by kernel_rfl⟩
instance : Fld Go.Proofs.Try.prog 33 5 5 3 := ⟨by kernel_rfl⟩
instance : Fld Go.Proofs.Try.prog 33 6 6 3 := ⟨by kernel_rfl⟩
instance : Size Go.Proofs.Try.prog 34 3 := ⟨by kernel_rfl⟩
instance : Bytes Go.Proofs.Try.prog 34 32 := ⟨by kernel_rfl⟩
instance : Zero Go.Proofs.Try.prog 34 [.int .i64 0, .int .i64 0, .string ByteArray.empty] := ⟨by kernel_rfl⟩
instance : Shape Go.Proofs.Try.prog 34 [.int .i64 0, .int .i64 0, .string ByteArray.empty] [(0, 1), (1, 1), (2, 1)] := ⟨.inl fun _ => by kernel_rfl⟩
instance : Aggr Go.Proofs.Try.prog 34 := ⟨by kernel_rfl⟩
instance : Fld Go.Proofs.Try.prog 34 0 0 3 := ⟨by kernel_rfl⟩
instance : Fld Go.Proofs.Try.prog 34 1 1 3 := ⟨by kernel_rfl⟩
instance : Fld Go.Proofs.Try.prog 34 2 2 9 := ⟨by kernel_rfl⟩
instance : Size Go.Proofs.Try.prog 35 3 := ⟨by kernel_rfl⟩
instance : Bytes Go.Proofs.Try.prog 35 32 := ⟨by kernel_rfl⟩
instance : Zero Go.Proofs.Try.prog 35 [.int .i64 0, .int .i64 0, .string ByteArray.empty] := ⟨by kernel_rfl⟩
instance : Shape Go.Proofs.Try.prog 35 [.int .i64 0, .int .i64 0, .string ByteArray.empty] [(0, 1), (1, 1), (2, 1)] := ⟨.inl fun _ => by kernel_rfl⟩
instance : Aggr Go.Proofs.Try.prog 35 := ⟨by kernel_rfl⟩
instance : Fld Go.Proofs.Try.prog 35 0 0 3 := ⟨by kernel_rfl⟩
instance : Fld Go.Proofs.Try.prog 35 1 1 3 := ⟨by kernel_rfl⟩
instance : Fld Go.Proofs.Try.prog 35 2 2 9 := ⟨by kernel_rfl⟩
instance : Size Go.Proofs.Try.prog 36 1 := ⟨by kernel_rfl⟩
instance : Bytes Go.Proofs.Try.prog 36 8 := ⟨by kernel_rfl⟩
instance : Zero Go.Proofs.Try.prog 36 [.nilFunc] := ⟨by kernel_rfl⟩
instance : Scal Go.Proofs.Try.prog 36 := ⟨by kernel_rfl⟩
instance : Size Go.Proofs.Try.prog 37 1 := ⟨by kernel_rfl⟩
instance : Bytes Go.Proofs.Try.prog 37 8 := ⟨by kernel_rfl⟩
instance : Zero Go.Proofs.Try.prog 37 [.nilFunc] := ⟨by kernel_rfl⟩
instance : Scal Go.Proofs.Try.prog 37 := ⟨by kernel_rfl⟩
instance : Size Go.Proofs.Try.prog 38 1 := ⟨by kernel_rfl⟩
instance : Bytes Go.Proofs.Try.prog 38 8 := ⟨by kernel_rfl⟩
instance : Zero Go.Proofs.Try.prog 38 [.nilFunc] := ⟨by kernel_rfl⟩
instance : Scal Go.Proofs.Try.prog 38 := ⟨by kernel_rfl⟩
instance : Size Go.Proofs.Try.prog 39 1 := ⟨by kernel_rfl⟩
instance : Bytes Go.Proofs.Try.prog 39 8 := ⟨by kernel_rfl⟩
instance : Zero Go.Proofs.Try.prog 39 [.nilFunc] := ⟨by kernel_rfl⟩
instance : Scal Go.Proofs.Try.prog 39 := ⟨by kernel_rfl⟩
instance : Size Go.Proofs.Try.prog 40 1 := ⟨by kernel_rfl⟩
instance : Bytes Go.Proofs.Try.prog 40 8 := ⟨by kernel_rfl⟩
instance : Zero Go.Proofs.Try.prog 40 [.nilFunc] := ⟨by kernel_rfl⟩
instance : Scal Go.Proofs.Try.prog 40 := ⟨by kernel_rfl⟩
instance : Size Go.Proofs.Try.prog 41 5 := ⟨by kernel_rfl⟩
instance : Bytes Go.Proofs.Try.prog 41 48 := ⟨by kernel_rfl⟩
instance : Zero Go.Proofs.Try.prog 41 [.int .i64 0, .int .i64 0, .int .i64 0, .int .i64 0, .string ByteArray.empty] := ⟨by kernel_rfl⟩
instance : Shape Go.Proofs.Try.prog 41 [.int .i64 0, .int .i64 0, .int .i64 0, .int .i64 0, .string ByteArray.empty] [(0, 1), (1, 1), (2, 3)] := ⟨.inl fun _ => by kernel_rfl⟩
instance : Aggr Go.Proofs.Try.prog 41 := ⟨by kernel_rfl⟩
instance : Fld Go.Proofs.Try.prog 41 0 0 3 := ⟨by kernel_rfl⟩
instance : Fld Go.Proofs.Try.prog 41 1 1 3 := ⟨by kernel_rfl⟩
instance : Fld Go.Proofs.Try.prog 41 2 2 35 := ⟨by kernel_rfl⟩
instance : Size Go.Proofs.Try.prog 42 5 := ⟨by kernel_rfl⟩
instance : Bytes Go.Proofs.Try.prog 42 48 := ⟨by kernel_rfl⟩
instance : Zero Go.Proofs.Try.prog 42 [.int .i64 0, .int .i64 0, .int .i64 0, .int .i64 0, .string ByteArray.empty] := ⟨by kernel_rfl⟩
instance : Shape Go.Proofs.Try.prog 42 [.int .i64 0, .int .i64 0, .int .i64 0, .int .i64 0, .string ByteArray.empty] [(0, 1), (1, 1), (2, 3)] := ⟨.inl fun _ => by kernel_rfl⟩
instance : Aggr Go.Proofs.Try.prog 42 := ⟨by kernel_rfl⟩
instance : Fld Go.Proofs.Try.prog 42 0 0 3 := ⟨by kernel_rfl⟩
instance : Fld Go.Proofs.Try.prog 42 1 1 3 := ⟨by kernel_rfl⟩
instance : Fld Go.Proofs.Try.prog 42 2 2 35 := ⟨by kernel_rfl⟩
instance : Size Go.Proofs.Try.prog 43 1 := ⟨by kernel_rfl⟩
instance : Bytes Go.Proofs.Try.prog 43 8 := ⟨by kernel_rfl⟩
instance : Zero Go.Proofs.Try.prog 43 [.nilFunc] := ⟨by kernel_rfl⟩
instance : Scal Go.Proofs.Try.prog 43 := ⟨by kernel_rfl⟩
instance : Size Go.Proofs.Try.prog 44 1 := ⟨by kernel_rfl⟩
instance : Bytes Go.Proofs.Try.prog 44 8 := ⟨by kernel_rfl⟩
instance : Zero Go.Proofs.Try.prog 44 [.nilFunc] := ⟨by kernel_rfl⟩
instance : Scal Go.Proofs.Try.prog 44 := ⟨by kernel_rfl⟩
instance : Size Go.Proofs.Try.prog 45 1 := ⟨by kernel_rfl⟩
instance : Bytes Go.Proofs.Try.prog 45 8 := ⟨by kernel_rfl⟩
instance : Zero Go.Proofs.Try.prog 45 [.nilFunc] := ⟨by kernel_rfl⟩
instance : Scal Go.Proofs.Try.prog 45 := ⟨by kernel_rfl⟩
instance : Size Go.Proofs.Try.prog 46 1 := ⟨by kernel_rfl⟩
instance : Bytes Go.Proofs.Try.prog 46 8 := ⟨by kernel_rfl⟩
instance : Zero Go.Proofs.Try.prog 46 [.nilFunc] := ⟨by kernel_rfl⟩
instance : Scal Go.Proofs.Try.prog 46 := ⟨by kernel_rfl⟩
instance : Size Go.Proofs.Try.prog 47 1 := ⟨by kernel_rfl⟩
instance : Bytes Go.Proofs.Try.prog 47 8 := ⟨by kernel_rfl⟩
instance : Zero Go.Proofs.Try.prog 47 [.nilFunc] := ⟨by kernel_rfl⟩
instance : Scal Go.Proofs.Try.prog 47 := ⟨by kernel_rfl⟩
instance : Size Go.Proofs.Try.prog 48 1 := ⟨by kernel_rfl⟩
instance : Bytes Go.Proofs.Try.prog 48 8 := ⟨by kernel_rfl⟩
instance : Zero Go.Proofs.Try.prog 48 [.nilFunc] := ⟨by kernel_rfl⟩
instance : Scal Go.Proofs.Try.prog 48 := ⟨by kernel_rfl⟩
instance : Size Go.Proofs.Try.prog 49 1 := ⟨by kernel_rfl⟩
instance : Bytes Go.Proofs.Try.prog 49 8 := ⟨by kernel_rfl⟩
instance : Zero Go.Proofs.Try.prog 49 [.nilFunc] := ⟨by kernel_rfl⟩
instance : Scal Go.Proofs.Try.prog 49 := ⟨by kernel_rfl⟩
instance : Size Go.Proofs.Try.prog 50 1 := ⟨by kernel_rfl⟩
instance : Bytes Go.Proofs.Try.prog 50 8 := ⟨by kernel_rfl⟩
instance : Zero Go.Proofs.Try.prog 50 [.nilFunc] := ⟨by kernel_rfl⟩
instance : Scal Go.Proofs.Try.prog 50 := ⟨by kernel_rfl⟩
instance : Size Go.Proofs.Try.prog 51 2 := ⟨by kernel_rfl⟩
instance : Bytes Go.Proofs.Try.prog 51 2 := ⟨by kernel_rfl⟩
instance : Zero Go.Proofs.Try.prog 51 [.bool false, .bool false] := ⟨by kernel_rfl⟩
instance : Shape Go.Proofs.Try.prog 51 [.bool false, .bool false] [(0, 1), (1, 1)] := ⟨.inr ⟨1, by decide, fun _ => by kernel_rfl⟩⟩
instance : Aggr Go.Proofs.Try.prog 51 := ⟨by kernel_rfl⟩
instance : Und Go.Proofs.Try.prog 51 (.array 2 4) := ⟨Go.Proofs.Try.underlying51⟩
instance : Size Go.Proofs.Try.prog 52 1 := ⟨by kernel_rfl⟩
instance : Bytes Go.Proofs.Try.prog 52 8 := ⟨by kernel_rfl⟩
instance : Zero Go.Proofs.Try.prog 52 [.nilFunc] := ⟨by kernel_rfl⟩
instance : Scal Go.Proofs.Try.prog 52 := ⟨by kernel_rfl⟩
instance : Size Go.Proofs.Try.prog 53 1 := ⟨by kernel_rfl⟩
instance : Bytes Go.Proofs.Try.prog 53 8 := ⟨by kernel_rfl⟩
instance : Zero Go.Proofs.Try.prog 53 [.nilFunc] := ⟨by kernel_rfl⟩
instance : Scal Go.Proofs.Try.prog 53 := ⟨by kernel_rfl⟩
instance : Size Go.Proofs.Try.prog 54 1 := ⟨by kernel_rfl⟩
instance : Bytes Go.Proofs.Try.prog 54 8 := ⟨by kernel_rfl⟩
instance : Zero Go.Proofs.Try.prog 54 [.nilFunc] := ⟨by kernel_rfl⟩
instance : Scal Go.Proofs.Try.prog 54 := ⟨by kernel_rfl⟩
instance : Size Go.Proofs.Try.prog 55 4 := ⟨by kernel_rfl⟩
instance : Bytes Go.Proofs.Try.prog 55 40 := ⟨by kernel_rfl⟩
instance : Zero Go.Proofs.Try.prog 55 [.pointer none, .pointer none, .pointer none, .string ByteArray.empty] := ⟨by kernel_rfl⟩
instance : Shape Go.Proofs.Try.prog 55 [.pointer none, .pointer none, .pointer none, .string ByteArray.empty] [(0, 1), (1, 1), (2, 1), (3, 1)] := ⟨.inl fun _ => by kernel_rfl⟩
instance : Aggr Go.Proofs.Try.prog 55 := ⟨by kernel_rfl⟩
instance : Fld Go.Proofs.Try.prog 55 0 0 17 := ⟨by kernel_rfl⟩
instance : Fld Go.Proofs.Try.prog 55 1 1 17 := ⟨by kernel_rfl⟩
instance : Fld Go.Proofs.Try.prog 55 2 2 17 := ⟨by kernel_rfl⟩
instance : Fld Go.Proofs.Try.prog 55 3 3 9 := ⟨by kernel_rfl⟩
instance : Size Go.Proofs.Try.prog 57 0 := ⟨by kernel_rfl⟩
instance : Bytes Go.Proofs.Try.prog 57 0 := ⟨by kernel_rfl⟩
instance : Zero Go.Proofs.Try.prog 57 [] := ⟨by kernel_rfl⟩
instance : Shape Go.Proofs.Try.prog 57 [] [] := ⟨.inr ⟨1, by decide, fun _ => by kernel_rfl⟩⟩
instance : Aggr Go.Proofs.Try.prog 57 := ⟨by kernel_rfl⟩
instance : Und Go.Proofs.Try.prog 57 (.array 0 16) := ⟨Go.Proofs.Try.underlying57⟩
instance : Size Go.Proofs.Try.prog 58 0 := ⟨by kernel_rfl⟩
instance : Bytes Go.Proofs.Try.prog 58 0 := ⟨by kernel_rfl⟩
instance : Zero Go.Proofs.Try.prog 58 [] := ⟨by kernel_rfl⟩
instance : Shape Go.Proofs.Try.prog 58 [] [(0, 0)] := ⟨.inl fun _ => by kernel_rfl⟩
instance : Aggr Go.Proofs.Try.prog 58 := ⟨by kernel_rfl⟩
instance : Fld Go.Proofs.Try.prog 58 0 0 57 := ⟨by kernel_rfl⟩
instance : Size Go.Proofs.Try.prog 60 1 := ⟨by kernel_rfl⟩
instance : Bytes Go.Proofs.Try.prog 60 8 := ⟨by kernel_rfl⟩
instance : Zero Go.Proofs.Try.prog 60 [.nilFunc] := ⟨by kernel_rfl⟩
instance : Scal Go.Proofs.Try.prog 60 := ⟨by kernel_rfl⟩
instance : Size Go.Proofs.Try.prog 61 1 := ⟨by kernel_rfl⟩
instance : Bytes Go.Proofs.Try.prog 61 4 := ⟨by kernel_rfl⟩
instance : Zero Go.Proofs.Try.prog 61 [.int .u32 0] := ⟨by kernel_rfl⟩
instance : Scal Go.Proofs.Try.prog 61 := ⟨by kernel_rfl⟩
instance : Und Go.Proofs.Try.prog 61 (.int .u32) := ⟨Go.Proofs.Try.underlying61⟩
instance : Size Go.Proofs.Try.prog 64 1 := ⟨by kernel_rfl⟩
instance : Bytes Go.Proofs.Try.prog 64 8 := ⟨by kernel_rfl⟩
instance : Zero Go.Proofs.Try.prog 64 [.nilFunc] := ⟨by kernel_rfl⟩
instance : Scal Go.Proofs.Try.prog 64 := ⟨by kernel_rfl⟩
instance : Size Go.Proofs.Try.prog 65 1 := ⟨by kernel_rfl⟩
instance : Bytes Go.Proofs.Try.prog 65 8 := ⟨by kernel_rfl⟩
instance : Zero Go.Proofs.Try.prog 65 [.pointer none] := ⟨by kernel_rfl⟩
instance : Scal Go.Proofs.Try.prog 65 := ⟨by kernel_rfl⟩
instance : Und Go.Proofs.Try.prog 65 (.pointer 5) := ⟨Go.Proofs.Try.underlying65⟩
instance : Size Go.Proofs.Try.prog 68 11 := ⟨by kernel_rfl⟩
instance : Bytes Go.Proofs.Try.prog 68 48 := ⟨by kernel_rfl⟩
instance : Zero Go.Proofs.Try.prog 68 [.int .u64 0, .int .u64 0, .int .u32 0, .int .u8 0, .int .u8 0, .int .u8 0, .int .u8 0, .nilFunc, .pointer none, .int .i32 0, .int .i32 0] := ⟨by kernel_rfl⟩
instance : Shape Go.Proofs.Try.prog 68 [.int .u64 0, .int .u64 0, .int .u32 0, .int .u8 0, .int .u8 0, .int .u8 0, .int .u8 0, .nilFunc, .pointer none, .int .i32 0, .int .i32 0] [(0, 1), (1, 1), (2, 1), (3, 1), (4, 1), (5, 1), (6, 1), (7, 1), (8, 1), (9, 1), (10, 1)] := ⟨.inl fun _ => by kernel_rfl⟩
instance : Aggr Go.Proofs.Try.prog 68 := ⟨by kernel_rfl⟩
instance : Fld Go.Proofs.Try.prog 68 0 0 12 := ⟨by kernel_rfl⟩
instance : Fld Go.Proofs.Try.prog 68 1 1 12 := ⟨by kernel_rfl⟩
instance : Fld Go.Proofs.Try.prog 68 2 2 61 := ⟨by kernel_rfl⟩
instance : Fld Go.Proofs.Try.prog 68 3 3 62 := ⟨by kernel_rfl⟩
instance : Fld Go.Proofs.Try.prog 68 4 4 5 := ⟨by kernel_rfl⟩
instance : Fld Go.Proofs.Try.prog 68 5 5 5 := ⟨by kernel_rfl⟩
instance : Fld Go.Proofs.Try.prog 68 6 6 63 := ⟨by kernel_rfl⟩
instance : Fld Go.Proofs.Try.prog 68 7 7 64 := ⟨by kernel_rfl⟩
instance : Fld Go.Proofs.Try.prog 68 8 8 65 := ⟨by kernel_rfl⟩
instance : Fld Go.Proofs.Try.prog 68 9 9 66 := ⟨by kernel_rfl⟩
instance : Fld Go.Proofs.Try.prog 68 10 10 67 := ⟨by kernel_rfl⟩
instance : Size Go.Proofs.Try.prog 70 1 := ⟨by kernel_rfl⟩
instance : Bytes Go.Proofs.Try.prog 70 8 := ⟨by kernel_rfl⟩
instance : Zero Go.Proofs.Try.prog 70 [.pointer none] := ⟨by kernel_rfl⟩
instance : Scal Go.Proofs.Try.prog 70 := ⟨by kernel_rfl⟩
theorem eqk2 : EqK Go.Proofs.Try.prog 2 false [.int] 1 := EqK.int
theorem eqk3 : EqK Go.Proofs.Try.prog 3 false [.int] 1 := EqK.int
theorem eqk4 : EqK Go.Proofs.Try.prog 4 false [.bool] 1 := EqK.bool
theorem eqk5 : EqK Go.Proofs.Try.prog 5 false [.int] 1 := EqK.int
theorem eqk9 : EqK Go.Proofs.Try.prog 9 false [.str] 1 := EqK.string
theorem eqk12 : EqK Go.Proofs.Try.prog 12 false [.int] 1 := EqK.int
theorem eqk21 : EqK Go.Proofs.Try.prog 21 false [.int] 1 := EqK.int
theorem eqk23 : EqK Go.Proofs.Try.prog 23 true [.int, .int, .int] 2 := (EqK.array (k := 3) rfl eqk3 : EqK Go.Proofs.Try.prog 23 true (repl [.int] 3) 2)
instance : EqT Go.Proofs.Try.prog 23 [.int, .int, .int] := ⟨by kernel_rfl, 2, by decide, eqk23⟩
theorem eqk30 : EqK Go.Proofs.Try.prog 30 true [.int, .int] 2 := (EqK.array (k := 2) rfl eqk3 : EqK Go.Proofs.Try.prog 30 true (repl [.int] 2) 2)
instance : EqT Go.Proofs.Try.prog 30 [.int, .int] := ⟨by kernel_rfl, 2, by decide, eqk30⟩
theorem eqk32 : EqK Go.Proofs.Try.prog 32 true [.int, .int, .int, .int, .int, .int, .int] 2 := by
  refine EqK.struct (ks := [.int, .int, .int, .int, .int, .int, .int]) (dep := 1) Go.Proofs.Try.underlying32 (by kernel_rfl) rfl ?_
  refine EqF.cons (ks := [.int]) (ks' := [.int, .int, .int, .int, .int, .int]) (by decide) rfl eqk3 (by decide) ?_
  refine EqF.cons (ks := [.int]) (ks' := [.int, .int, .int, .int, .int]) (by decide) rfl eqk3 (by decide) ?_
  refine EqF.cons (ks := [.int]) (ks' := [.int, .int, .int, .int]) (by decide) rfl eqk3 (by decide) ?_
  refine EqF.cons (ks := [.int]) (ks' := [.int, .int, .int]) (by decide) rfl eqk3 (by decide) ?_
  refine EqF.cons (ks := [.int]) (ks' := [.int, .int]) (by decide) rfl eqk3 (by decide) ?_
  refine EqF.cons (ks := [.int]) (ks' := [.int]) (by decide) rfl eqk3 (by decide) ?_
  refine EqF.cons (ks := [.int]) (ks' := []) (by decide) rfl eqk3 (by decide) ?_
  exact EqF.nil
instance : EqT Go.Proofs.Try.prog 32 [.int, .int, .int, .int, .int, .int, .int] := ⟨by kernel_rfl, 2, by decide, eqk32⟩
theorem eqk33 : EqK Go.Proofs.Try.prog 33 true [.int, .int, .int, .int, .int, .int, .int] 2 := by
  refine EqK.struct (ks := [.int, .int, .int, .int, .int, .int, .int]) (dep := 1) Go.Proofs.Try.underlying33 (by kernel_rfl) rfl ?_
  refine EqF.cons (ks := [.int]) (ks' := [.int, .int, .int, .int, .int, .int]) (by decide) rfl eqk3 (by decide) ?_
  refine EqF.cons (ks := [.int]) (ks' := [.int, .int, .int, .int, .int]) (by decide) rfl eqk3 (by decide) ?_
  refine EqF.cons (ks := [.int]) (ks' := [.int, .int, .int, .int]) (by decide) rfl eqk3 (by decide) ?_
  refine EqF.cons (ks := [.int]) (ks' := [.int, .int, .int]) (by decide) rfl eqk3 (by decide) ?_
  refine EqF.cons (ks := [.int]) (ks' := [.int, .int]) (by decide) rfl eqk3 (by decide) ?_
  refine EqF.cons (ks := [.int]) (ks' := [.int]) (by decide) rfl eqk3 (by decide) ?_
  refine EqF.cons (ks := [.int]) (ks' := []) (by decide) rfl eqk3 (by decide) ?_
  exact EqF.nil
instance : EqT Go.Proofs.Try.prog 33 [.int, .int, .int, .int, .int, .int, .int] := ⟨by kernel_rfl, 2, by decide, eqk33⟩
theorem eqk34 : EqK Go.Proofs.Try.prog 34 true [.int, .int, .str] 2 := by
  refine EqK.struct (ks := [.int, .int, .str]) (dep := 1) Go.Proofs.Try.underlying34 (by kernel_rfl) rfl ?_
  refine EqF.cons (ks := [.int]) (ks' := [.int, .str]) (by decide) rfl eqk3 (by decide) ?_
  refine EqF.cons (ks := [.int]) (ks' := [.str]) (by decide) rfl eqk3 (by decide) ?_
  refine EqF.cons (ks := [.str]) (ks' := []) (by decide) rfl eqk9 (by decide) ?_
  exact EqF.nil
instance : EqT Go.Proofs.Try.prog 34 [.int, .int, .str] := ⟨by kernel_rfl, 2, by decide, eqk34⟩
theorem eqk35 : EqK Go.Proofs.Try.prog 35 true [.int, .int, .str] 2 := by
  refine EqK.struct (ks := [.int, .int, .str]) (dep := 1) Go.Proofs.Try.underlying35 (by kernel_rfl) rfl ?_
  refine EqF.cons (ks := [.int]) (ks' := [.int, .str]) (by decide) rfl eqk3 (by decide) ?_
  refine EqF.cons (ks := [.int]) (ks' := [.str]) (by decide) rfl eqk3 (by decide) ?_
  refine EqF.cons (ks := [.str]) (ks' := []) (by decide) rfl eqk9 (by decide) ?_
  exact EqF.nil
instance : EqT Go.Proofs.Try.prog 35 [.int, .int, .str] := ⟨by kernel_rfl, 2, by decide, eqk35⟩
theorem eqk41 : EqK Go.Proofs.Try.prog 41 true [.int, .int, .int, .int, .str] 3 := by
  refine EqK.struct (ks := [.int, .int, .int, .int, .str]) (dep := 2) Go.Proofs.Try.underlying41 (by kernel_rfl) rfl ?_
  refine EqF.cons (ks := [.int]) (ks' := [.int, .int, .int, .str]) (by decide) rfl eqk3 (by decide) ?_
  refine EqF.cons (ks := [.int]) (ks' := [.int, .int, .str]) (by decide) rfl eqk3 (by decide) ?_
  refine EqF.cons (ks := [.int, .int, .str]) (ks' := []) (by decide) rfl eqk35 (by decide) ?_
  exact EqF.nil
instance : EqT Go.Proofs.Try.prog 41 [.int, .int, .int, .int, .str] := ⟨by kernel_rfl, 3, by decide, eqk41⟩
theorem eqk42 : EqK Go.Proofs.Try.prog 42 true [.int, .int, .int, .int, .str] 3 := by
  refine EqK.struct (ks := [.int, .int, .int, .int, .str]) (dep := 2) Go.Proofs.Try.underlying42 (by kernel_rfl) rfl ?_
  refine EqF.cons (ks := [.int]) (ks' := [.int, .int, .int, .str]) (by decide) rfl eqk3 (by decide) ?_
  refine EqF.cons (ks := [.int]) (ks' := [.int, .int, .str]) (by decide) rfl eqk3 (by decide) ?_
  refine EqF.cons (ks := [.int, .int, .str]) (ks' := []) (by decide) rfl eqk35 (by decide) ?_
  exact EqF.nil
instance : EqT Go.Proofs.Try.prog 42 [.int, .int, .int, .int, .str] := ⟨by kernel_rfl, 3, by decide, eqk42⟩
theorem eqk51 : EqK Go.Proofs.Try.prog 51 true [.bool, .bool] 2 := (EqK.array (k := 2) rfl eqk4 : EqK Go.Proofs.Try.prog 51 true (repl [.bool] 2) 2)
instance : EqT Go.Proofs.Try.prog 51 [.bool, .bool] := ⟨by kernel_rfl, 2, by decide, eqk51⟩
theorem eqk61 : EqK Go.Proofs.Try.prog 61 false [.int] 1 := EqK.int
instance : Fun Go.Proofs.Try.prog 3 Go.Proofs.Try.f3 := ⟨Go.Proofs.Try.func3, by kernel_rfl, by kernel_rfl⟩
instance : Fun Go.Proofs.Try.prog 4 Go.Proofs.Try.f4 := ⟨Go.Proofs.Try.func4, by kernel_rfl, by kernel_rfl⟩
instance : Fun Go.Proofs.Try.prog 5 Go.Proofs.Try.f5 := ⟨Go.Proofs.Try.func5, by kernel_rfl, by kernel_rfl⟩
instance : Fun Go.Proofs.Try.prog 6 Go.Proofs.Try.f6 := ⟨Go.Proofs.Try.func6, by kernel_rfl, by kernel_rfl⟩
instance : Fun Go.Proofs.Try.prog 7 Go.Proofs.Try.f7 := ⟨Go.Proofs.Try.func7, by kernel_rfl, by kernel_rfl⟩
instance : Fun Go.Proofs.Try.prog 8 Go.Proofs.Try.f8 := ⟨Go.Proofs.Try.func8, by kernel_rfl, by kernel_rfl⟩
instance : Fun Go.Proofs.Try.prog 9 Go.Proofs.Try.f9 := ⟨Go.Proofs.Try.func9, by kernel_rfl, by kernel_rfl⟩
instance : Fun Go.Proofs.Try.prog 10 Go.Proofs.Try.f10 := ⟨Go.Proofs.Try.func10, by kernel_rfl, by kernel_rfl⟩
instance : Fun Go.Proofs.Try.prog 11 Go.Proofs.Try.f11 := ⟨Go.Proofs.Try.func11, by kernel_rfl, by kernel_rfl⟩
instance : Fun Go.Proofs.Try.prog 12 Go.Proofs.Try.f12 := ⟨Go.Proofs.Try.func12, by kernel_rfl, by kernel_rfl⟩
instance : Fun Go.Proofs.Try.prog 13 Go.Proofs.Try.f13 := ⟨Go.Proofs.Try.func13, by kernel_rfl, by kernel_rfl⟩
instance : Fun Go.Proofs.Try.prog 14 Go.Proofs.Try.f14 := ⟨Go.Proofs.Try.func14, by kernel_rfl, by kernel_rfl⟩
instance : Fun Go.Proofs.Try.prog 15 Go.Proofs.Try.f15 := ⟨Go.Proofs.Try.func15, by kernel_rfl, by kernel_rfl⟩
instance : Fun Go.Proofs.Try.prog 16 Go.Proofs.Try.f16 := ⟨Go.Proofs.Try.func16, by kernel_rfl, by kernel_rfl⟩
instance : Fun Go.Proofs.Try.prog 17 Go.Proofs.Try.f17 := ⟨Go.Proofs.Try.func17, by kernel_rfl, by kernel_rfl⟩
instance : Fun Go.Proofs.Try.prog 18 Go.Proofs.Try.f18 := ⟨Go.Proofs.Try.func18, by kernel_rfl, by kernel_rfl⟩
instance : Fun Go.Proofs.Try.prog 19 Go.Proofs.Try.f19 := ⟨Go.Proofs.Try.func19, by kernel_rfl, by kernel_rfl⟩
instance : Fun Go.Proofs.Try.prog 20 Go.Proofs.Try.f20 := ⟨Go.Proofs.Try.func20, by kernel_rfl, by kernel_rfl⟩
instance : Fun Go.Proofs.Try.prog 21 Go.Proofs.Try.f21 := ⟨Go.Proofs.Try.func21, by kernel_rfl, by kernel_rfl⟩
instance : Fun Go.Proofs.Try.prog 22 Go.Proofs.Try.f22 := ⟨Go.Proofs.Try.func22, by kernel_rfl, by kernel_rfl⟩
instance : Fun Go.Proofs.Try.prog 23 Go.Proofs.Try.f23 := ⟨Go.Proofs.Try.func23, by kernel_rfl, by kernel_rfl⟩
instance : Fun Go.Proofs.Try.prog 24 Go.Proofs.Try.f24 := ⟨Go.Proofs.Try.func24, by kernel_rfl, by kernel_rfl⟩
instance : Fun Go.Proofs.Try.prog 25 Go.Proofs.Try.f25 := ⟨Go.Proofs.Try.func25, by kernel_rfl, by kernel_rfl⟩
instance : Fun Go.Proofs.Try.prog 26 Go.Proofs.Try.f26 := ⟨Go.Proofs.Try.func26, by kernel_rfl, by kernel_rfl⟩
end Go.Proofs.Ytaamnccgciepbaa.Ty

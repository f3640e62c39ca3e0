/- A part of the proof of the claim (the pure semantics PS and the contracts of the functions over it). -/
import Derived.Test.YtihpkebhgkfiaaaDoorPsC
import Derived.Test.YtihpkebhgkfiaaaDoorProg
import Derived.Test.YtihpkebhgkfiaaaDoorShelf
import Derived.Lib.ItoaLen
set_option linter.all false
section
namespace Go.PS
open Go.Proofs
def tbl : List TyI := [
  ⟨.other, 1, 0, []⟩,
  ⟨.func, 1, 8, [.nilf]⟩,
  ⟨.int .i64, 1, 8, [.int .i64 0]⟩,
  ⟨.int .i64, 1, 8, [.int .i64 0]⟩,
  ⟨.bool, 1, 1, [.bool false]⟩,
  ⟨.int .u8, 1, 1, [.int .u8 0]⟩,
  ⟨.int .u8, 1, 1, [.int .u8 0]⟩,
  ⟨.struct [(0, 2), (1, 3), (2, 4), (3, 6)], 4, 24, [.int .i64 0, .int .i64 0, .bool false, .int .u8 0]⟩,
  ⟨.struct [(0, 2), (1, 3), (2, 4), (3, 6)], 4, 24, [.int .i64 0, .int .i64 0, .bool false, .int .u8 0]⟩,
  ⟨.str, 1, 16, [.str []]⟩,
  ⟨.str, 1, 16, [.str []]⟩,
  ⟨.str, 1, 16, [.str []]⟩,
  ⟨.int .u64, 1, 8, [.int .u64 0]⟩,
  ⟨.struct [(0, 9), (1, 12)], 2, 24, [.str [], .int .u64 0]⟩,
  ⟨.struct [(0, 9), (1, 12)], 2, 24, [.str [], .int .u64 0]⟩,
  ⟨.ptr 165, 1, 8, [.nilp]⟩,
  ⟨.ptr 168, 1, 8, [.nilp]⟩,
  ⟨.ptr 175, 1, 8, [.nilp]⟩,
  ⟨.struct [(0, 17)], 1, 8, [.nilp]⟩,
  ⟨.struct [(0, 17)], 1, 8, [.nilp]⟩,
  ⟨.iface, 1, 16, [.nili]⟩,
  ⟨.int .i32, 1, 4, [.int .i32 0]⟩,
  ⟨.func, 1, 8, [.nilf]⟩,
  ⟨.slice 55, 1, 24, [.nils 4]⟩,
  ⟨.int .i64, 1, 8, [.int .i64 0]⟩,
  ⟨.other, 1, 0, []⟩,
  ⟨.func, 1, 8, [.nilf]⟩,
  ⟨.other, 1, 0, []⟩,
  ⟨.func, 1, 8, [.nilf]⟩,
  ⟨.func, 1, 8, [.nilf]⟩,
  ⟨.func, 1, 8, [.nilf]⟩,
  ⟨.int .i64, 1, 8, [.int .i64 0]⟩,
  ⟨.struct [(0, 31), (1, 3), (2, 9)], 3, 32, [.int .i64 0, .int .i64 0, .str []]⟩,
  ⟨.struct [(0, 31), (1, 3), (2, 9)], 3, 32, [.int .i64 0, .int .i64 0, .str []]⟩,
  ⟨.other, 1, 0, []⟩,
  ⟨.func, 1, 8, [.nilf]⟩,
  ⟨.other, 1, 0, []⟩,
  ⟨.func, 1, 8, [.nilf]⟩,
  ⟨.func, 1, 8, [.nilf]⟩,
  ⟨.other, 1, 0, []⟩,
  ⟨.func, 1, 8, [.nilf]⟩,
  ⟨.func, 1, 8, [.nilf]⟩,
  ⟨.func, 1, 8, [.nilf]⟩,
  ⟨.other, 1, 0, []⟩,
  ⟨.func, 1, 8, [.nilf]⟩,
  ⟨.func, 1, 8, [.nilf]⟩,
  ⟨.func, 1, 8, [.nilf]⟩,
  ⟨.func, 1, 8, [.nilf]⟩,
  ⟨.func, 1, 8, [.nilf]⟩,
  ⟨.func, 1, 8, [.nilf]⟩,
  ⟨.func, 1, 8, [.nilf]⟩,
  ⟨.func, 1, 8, [.nilf]⟩,
  ⟨.func, 1, 8, [.nilf]⟩,
  ⟨.int .i64, 1, 8, [.int .i64 0]⟩,
  ⟨.struct [(0, 53), (1, 9), (2, 3), (3, 3)], 4, 40, [.int .i64 0, .str [], .int .i64 0, .int .i64 0]⟩,
  ⟨.struct [(0, 53), (1, 9), (2, 3), (3, 3)], 4, 40, [.int .i64 0, .str [], .int .i64 0, .int .i64 0]⟩,
  ⟨.func, 1, 8, [.nilf]⟩,
  ⟨.func, 1, 8, [.nilf]⟩,
  ⟨.func, 1, 8, [.nilf]⟩,
  ⟨.func, 1, 8, [.nilf]⟩,
  ⟨.func, 1, 8, [.nilf]⟩,
  ⟨.func, 1, 8, [.nilf]⟩,
  ⟨.func, 1, 8, [.nilf]⟩,
  ⟨.func, 1, 8, [.nilf]⟩,
  ⟨.ptr 67, 1, 8, [.nilp]⟩,
  ⟨.slice 5, 1, 24, [.nils 1]⟩,
  ⟨.struct [(0, 65), (1, 3)], 2, 32, [.nils 1, .int .i64 0]⟩,
  ⟨.struct [(0, 65), (1, 3)], 2, 32, [.nils 1, .int .i64 0]⟩,
  ⟨.func, 1, 8, [.nilf]⟩,
  ⟨.func, 1, 8, [.nilf]⟩,
  ⟨.other, 1, 0, []⟩,
  ⟨.func, 1, 8, [.nilf]⟩,
  ⟨.func, 1, 8, [.nilf]⟩,
  ⟨.other, 1, 0, []⟩,
  ⟨.func, 1, 8, [.nilf]⟩,
  ⟨.ptr 77, 1, 8, [.nilp]⟩,
  ⟨.struct [(0, 9), (1, 3)], 2, 24, [.str [], .int .i64 0]⟩,
  ⟨.struct [(0, 9), (1, 3)], 2, 24, [.str [], .int .i64 0]⟩,
  ⟨.func, 1, 8, [.nilf]⟩,
  ⟨.func, 1, 8, [.nilf]⟩,
  ⟨.func, 1, 8, [.nilf]⟩,
  ⟨.func, 1, 8, [.nilf]⟩,
  ⟨.slice 9, 1, 24, [.nils 1]⟩,
  ⟨.func, 1, 8, [.nilf]⟩,
  ⟨.func, 1, 8, [.nilf]⟩,
  ⟨.func, 1, 8, [.nilf]⟩,
  ⟨.func, 1, 8, [.nilf]⟩,
  ⟨.func, 1, 8, [.nilf]⟩,
  ⟨.func, 1, 8, [.nilf]⟩,
  ⟨.func, 1, 8, [.nilf]⟩,
  ⟨.func, 1, 8, [.nilf]⟩,
  ⟨.func, 1, 8, [.nilf]⟩,
  ⟨.func, 1, 8, [.nilf]⟩,
  ⟨.func, 1, 8, [.nilf]⟩,
  ⟨.func, 1, 8, [.nilf]⟩,
  ⟨.other, 1, 0, []⟩,
  ⟨.func, 1, 8, [.nilf]⟩,
  ⟨.other, 1, 0, []⟩,
  ⟨.func, 1, 8, [.nilf]⟩,
  ⟨.func, 1, 8, [.nilf]⟩,
  ⟨.iface, 1, 16, [.nili]⟩,
  ⟨.iface, 1, 16, [.nili]⟩,
  ⟨.other, 1, 0, []⟩,
  ⟨.func, 1, 8, [.nilf]⟩,
  ⟨.other, 1, 0, []⟩,
  ⟨.func, 1, 8, [.nilf]⟩,
  ⟨.func, 1, 8, [.nilf]⟩,
  ⟨.struct [(0, 3)], 1, 8, [.int .i64 0]⟩,
  ⟨.struct [(0, 3)], 1, 8, [.int .i64 0]⟩,
  ⟨.other, 1, 0, []⟩,
  ⟨.func, 1, 8, [.nilf]⟩,
  ⟨.int .u64, 1, 8, [.int .u64 0]⟩,
  ⟨.ptr 114, 1, 8, [.nilp]⟩,
  ⟨.struct [(0, 112), (1, 65)], 2, 32, [.nilp, .nils 1]⟩,
  ⟨.struct [(0, 112), (1, 65)], 2, 32, [.nilp, .nils 1]⟩,
  ⟨.func, 1, 8, [.nilf]⟩,
  ⟨.func, 1, 8, [.nilf]⟩,
  ⟨.func, 1, 8, [.nilf]⟩,
  ⟨.func, 1, 8, [.nilf]⟩,
  ⟨.other, 1, 0, []⟩,
  ⟨.func, 1, 8, [.nilf]⟩,
  ⟨.other, 1, 0, []⟩,
  ⟨.func, 1, 8, [.nilf]⟩,
  ⟨.func, 1, 8, [.nilf]⟩,
  ⟨.func, 1, 8, [.nilf]⟩,
  ⟨.func, 1, 8, [.nilf]⟩,
  ⟨.ptr 5, 1, 8, [.nilp]⟩,
  ⟨.array 256 5, 256, 256, [.int .u8 0, .int .u8 0, .int .u8 0, .int .u8 0, .int .u8 0, .int .u8 0, .int .u8 0, .int .u8 0, .int .u8 0, .int .u8 0, .int .u8 0, .int .u8 0, .int .u8 0, .int .u8 0, .int .u8 0, .int .u8 0, .int .u8 0, .int .u8 0, .int .u8 0, .int .u8 0, .int .u8 0, .int .u8 0, .int .u8 0, .int .u8 0, .int .u8 0, .int .u8 0, .int .u8 0, .int .u8 0, .int .u8 0, .int .u8 0, .int .u8 0, .int .u8 0, .int .u8 0, .int .u8 0, .int .u8 0, .int .u8 0, .int .u8 0, .int .u8 0, .int .u8 0, .int .u8 0, .int .u8 0, .int .u8 0, .int .u8 0, .int .u8 0, .int .u8 0, .int .u8 0, .int .u8 0, .int .u8 0, .int .u8 0, .int .u8 0, .int .u8 0, .int .u8 0, .int .u8 0, .int .u8 0, .int .u8 0, .int .u8 0, .int .u8 0, .int .u8 0, .int .u8 0, .int .u8 0, .int .u8 0, .int .u8 0, .int .u8 0, .int .u8 0, .int .u8 0, .int .u8 0, .int .u8 0, .int .u8 0, .int .u8 0, .int .u8 0, .int .u8 0, .int .u8 0, .int .u8 0, .int .u8 0, .int .u8 0, .int .u8 0, .int .u8 0, .int .u8 0, .int .u8 0, .int .u8 0, .int .u8 0, .int .u8 0, .int .u8 0, .int .u8 0, .int .u8 0, .int .u8 0, .int .u8 0, .int .u8 0, .int .u8 0, .int .u8 0, .int .u8 0, .int .u8 0, .int .u8 0, .int .u8 0, .int .u8 0, .int .u8 0, .int .u8 0, .int .u8 0, .int .u8 0, .int .u8 0, .int .u8 0, .int .u8 0, .int .u8 0, .int .u8 0, .int .u8 0, .int .u8 0, .int .u8 0, .int .u8 0, .int .u8 0, .int .u8 0, .int .u8 0, .int .u8 0, .int .u8 0, .int .u8 0, .int .u8 0, .int .u8 0, .int .u8 0, .int .u8 0, .int .u8 0, .int .u8 0, .int .u8 0, .int .u8 0, .int .u8 0, .int .u8 0, .int .u8 0, .int .u8 0, .int .u8 0, .int .u8 0, .int .u8 0, .int .u8 0, .int .u8 0, .int .u8 0, .int .u8 0, .int .u8 0, .int .u8 0, .int .u8 0, .int .u8 0, .int .u8 0, .int .u8 0, .int .u8 0, .int .u8 0, .int .u8 0, .int .u8 0, .int .u8 0, .int .u8 0, .int .u8 0, .int .u8 0, .int .u8 0, .int .u8 0, .int .u8 0, .int .u8 0, .int .u8 0, .int .u8 0, .int .u8 0, .int .u8 0, .int .u8 0, .int .u8 0, .int .u8 0, .int .u8 0, .int .u8 0, .int .u8 0, .int .u8 0, .int .u8 0, .int .u8 0, .int .u8 0, .int .u8 0, .int .u8 0, .int .u8 0, .int .u8 0, .int .u8 0, .int .u8 0, .int .u8 0, .int .u8 0, .int .u8 0, .int .u8 0, .int .u8 0, .int .u8 0, .int .u8 0, .int .u8 0, .int .u8 0, .int .u8 0, .int .u8 0, .int .u8 0, .int .u8 0, .int .u8 0, .int .u8 0, .int .u8 0, .int .u8 0, .int .u8 0, .int .u8 0, .int .u8 0, .int .u8 0, .int .u8 0, .int .u8 0, .int .u8 0, .int .u8 0, .int .u8 0, .int .u8 0, .int .u8 0, .int .u8 0, .int .u8 0, .int .u8 0, .int .u8 0, .int .u8 0, .int .u8 0, .int .u8 0, .int .u8 0, .int .u8 0, .int .u8 0, .int .u8 0, .int .u8 0, .int .u8 0, .int .u8 0, .int .u8 0, .int .u8 0, .int .u8 0, .int .u8 0, .int .u8 0, .int .u8 0, .int .u8 0, .int .u8 0, .int .u8 0, .int .u8 0, .int .u8 0, .int .u8 0, .int .u8 0, .int .u8 0, .int .u8 0, .int .u8 0, .int .u8 0, .int .u8 0, .int .u8 0, .int .u8 0, .int .u8 0, .int .u8 0, .int .u8 0, .int .u8 0, .int .u8 0, .int .u8 0, .int .u8 0, .int .u8 0, .int .u8 0, .int .u8 0, .int .u8 0, .int .u8 0, .int .u8 0, .int .u8 0, .int .u8 0, .int .u8 0, .int .u8 0, .int .u8 0, .int .u8 0, .int .u8 0, .int .u8 0, .int .u8 0, .int .u8 0]⟩,
  ⟨.struct [(0, 5), (1, 5)], 2, 2, [.int .u8 0, .int .u8 0]⟩,
  ⟨.struct [(0, 5), (1, 5)], 2, 2, [.int .u8 0, .int .u8 0]⟩,
  ⟨.array 16 129, 32, 32, [.int .u8 0, .int .u8 0, .int .u8 0, .int .u8 0, .int .u8 0, .int .u8 0, .int .u8 0, .int .u8 0, .int .u8 0, .int .u8 0, .int .u8 0, .int .u8 0, .int .u8 0, .int .u8 0, .int .u8 0, .int .u8 0, .int .u8 0, .int .u8 0, .int .u8 0, .int .u8 0, .int .u8 0, .int .u8 0, .int .u8 0, .int .u8 0, .int .u8 0, .int .u8 0, .int .u8 0, .int .u8 0, .int .u8 0, .int .u8 0, .int .u8 0, .int .u8 0]⟩,
  ⟨.int .i64, 1, 8, [.int .i64 0]⟩,
  ⟨.other, 1, 0, []⟩,
  ⟨.func, 1, 8, [.nilf]⟩,
  ⟨.ptr 149, 1, 8, [.nilp]⟩,
  ⟨.func, 1, 8, [.nilf]⟩,
  ⟨.func, 1, 8, [.nilf]⟩,
  ⟨.array 24 5, 24, 24, [.int .u8 0, .int .u8 0, .int .u8 0, .int .u8 0, .int .u8 0, .int .u8 0, .int .u8 0, .int .u8 0, .int .u8 0, .int .u8 0, .int .u8 0, .int .u8 0, .int .u8 0, .int .u8 0, .int .u8 0, .int .u8 0, .int .u8 0, .int .u8 0, .int .u8 0, .int .u8 0, .int .u8 0, .int .u8 0, .int .u8 0, .int .u8 0]⟩,
  ⟨.int .u64, 1, 8, [.int .u64 0]⟩,
  ⟨.func, 1, 8, [.nilf]⟩,
  ⟨.func, 1, 8, [.nilf]⟩,
  ⟨.other, 1, 0, []⟩,
  ⟨.func, 1, 8, [.nilf]⟩,
  ⟨.other, 1, 8, []⟩,
  ⟨.func, 1, 8, [.nilf]⟩,
  ⟨.func, 1, 8, [.nilf]⟩,
  ⟨.other, 1, 0, []⟩,
  ⟨.func, 1, 8, [.nilf]⟩,
  ⟨.struct [(0, 9), (1, 9), (2, 101)], 3, 48, [.str [], .str [], .nili]⟩,
  ⟨.struct [(0, 9), (1, 9), (2, 101)], 3, 48, [.str [], .str [], .nili]⟩,
  ⟨.func, 1, 8, [.nilf]⟩,
  ⟨.func, 1, 8, [.nilf]⟩,
  ⟨.func, 1, 8, [.nilf]⟩,
  ⟨.array 20 138, 20, 160, [.int .u64 0, .int .u64 0, .int .u64 0, .int .u64 0, .int .u64 0, .int .u64 0, .int .u64 0, .int .u64 0, .int .u64 0, .int .u64 0, .int .u64 0, .int .u64 0, .int .u64 0, .int .u64 0, .int .u64 0, .int .u64 0, .int .u64 0, .int .u64 0, .int .u64 0, .int .u64 0]⟩,
  ⟨.int .u32, 1, 4, [.int .u32 0]⟩,
  ⟨.array 65 5, 65, 65, [.int .u8 0, .int .u8 0, .int .u8 0, .int .u8 0, .int .u8 0, .int .u8 0, .int .u8 0, .int .u8 0, .int .u8 0, .int .u8 0, .int .u8 0, .int .u8 0, .int .u8 0, .int .u8 0, .int .u8 0, .int .u8 0, .int .u8 0, .int .u8 0, .int .u8 0, .int .u8 0, .int .u8 0, .int .u8 0, .int .u8 0, .int .u8 0, .int .u8 0, .int .u8 0, .int .u8 0, .int .u8 0, .int .u8 0, .int .u8 0, .int .u8 0, .int .u8 0, .int .u8 0, .int .u8 0, .int .u8 0, .int .u8 0, .int .u8 0, .int .u8 0, .int .u8 0, .int .u8 0, .int .u8 0, .int .u8 0, .int .u8 0, .int .u8 0, .int .u8 0, .int .u8 0, .int .u8 0, .int .u8 0, .int .u8 0, .int .u8 0, .int .u8 0, .int .u8 0, .int .u8 0, .int .u8 0, .int .u8 0, .int .u8 0, .int .u8 0, .int .u8 0, .int .u8 0, .int .u8 0, .int .u8 0, .int .u8 0, .int .u8 0, .int .u8 0, .int .u8 0]⟩,
  ⟨.func, 1, 8, [.nilf]⟩,
  ⟨.func, 1, 8, [.nilf]⟩,
  ⟨.ptr 160, 1, 8, [.nilp]⟩,
  ⟨.struct [(0, 9)], 1, 16, [.str []]⟩,
  ⟨.struct [(0, 9)], 1, 16, [.str []]⟩,
  ⟨.func, 1, 8, [.nilf]⟩,
  ⟨.array 32 5, 32, 32, [.int .u8 0, .int .u8 0, .int .u8 0, .int .u8 0, .int .u8 0, .int .u8 0, .int .u8 0, .int .u8 0, .int .u8 0, .int .u8 0, .int .u8 0, .int .u8 0, .int .u8 0, .int .u8 0, .int .u8 0, .int .u8 0, .int .u8 0, .int .u8 0, .int .u8 0, .int .u8 0, .int .u8 0, .int .u8 0, .int .u8 0, .int .u8 0, .int .u8 0, .int .u8 0, .int .u8 0, .int .u8 0, .int .u8 0, .int .u8 0, .int .u8 0, .int .u8 0]⟩,
  ⟨.array 64 5, 64, 64, [.int .u8 0, .int .u8 0, .int .u8 0, .int .u8 0, .int .u8 0, .int .u8 0, .int .u8 0, .int .u8 0, .int .u8 0, .int .u8 0, .int .u8 0, .int .u8 0, .int .u8 0, .int .u8 0, .int .u8 0, .int .u8 0, .int .u8 0, .int .u8 0, .int .u8 0, .int .u8 0, .int .u8 0, .int .u8 0, .int .u8 0, .int .u8 0, .int .u8 0, .int .u8 0, .int .u8 0, .int .u8 0, .int .u8 0, .int .u8 0, .int .u8 0, .int .u8 0, .int .u8 0, .int .u8 0, .int .u8 0, .int .u8 0, .int .u8 0, .int .u8 0, .int .u8 0, .int .u8 0, .int .u8 0, .int .u8 0, .int .u8 0, .int .u8 0, .int .u8 0, .int .u8 0, .int .u8 0, .int .u8 0, .int .u8 0, .int .u8 0, .int .u8 0, .int .u8 0, .int .u8 0, .int .u8 0, .int .u8 0, .int .u8 0, .int .u8 0, .int .u8 0, .int .u8 0, .int .u8 0, .int .u8 0, .int .u8 0, .int .u8 0, .int .u8 0]⟩,
  ⟨.struct [(0, 17), (1, 17), (2, 17), (3, 9)], 4, 40, [.nilp, .nilp, .nilp, .str []]⟩,
  ⟨.struct [(0, 17), (1, 17), (2, 17), (3, 9)], 4, 40, [.nilp, .nilp, .nilp, .str []]⟩,
  ⟨.array 0 16, 0, 0, []⟩,
  ⟨.struct [(0, 166)], 0, 0, []⟩,
  ⟨.struct [(0, 166)], 0, 0, []⟩,
  ⟨.int .u8, 1, 1, [.int .u8 0]⟩,
  ⟨.int .u8, 1, 1, [.int .u8 0]⟩,
  ⟨.func, 1, 8, [.nilf]⟩,
  ⟨.int .i32, 1, 4, [.int .i32 0]⟩,
  ⟨.int .i32, 1, 4, [.int .i32 0]⟩,
  ⟨.struct [(0, 12), (1, 12), (2, 154), (3, 169), (4, 5), (5, 5), (6, 170), (7, 171), (8, 126), (9, 172), (10, 173)], 11, 48, [.int .u64 0, .int .u64 0, .int .u32 0, .int .u8 0, .int .u8 0, .int .u8 0, .int .u8 0, .nilf, .nilp, .int .i32 0, .int .i32 0]⟩,
  ⟨.struct [(0, 12), (1, 12), (2, 154), (3, 169), (4, 5), (5, 5), (6, 170), (7, 171), (8, 126), (9, 172), (10, 173)], 11, 48, [.int .u64 0, .int .u64 0, .int .u32 0, .int .u8 0, .int .u8 0, .int .u8 0, .int .u8 0, .nilf, .nilp, .int .i32 0, .int .i32 0]⟩]
set_option maxRecDepth 100000 in
theorem tbl_eq : tbl = tyTab Tryd.prog 176 176 0 := by kernel_rfl
theorem k33 : eqKinds Tryd.prog 10 33 = some [.int .i64 0, .int .i64 0, .str []] := by kernel_rfl
theorem k55 : eqKinds Tryd.prog 10 55 = some [.int .i64 0, .str [], .int .i64 0, .int .i64 0] := by kernel_rfl
def ctx (F : Nat) (l : List (Nat × EK)) : Ctx := ⟨tbl, [33, 55], look l, F⟩
theorem eq_mem {t : Nat} (h : memN t [33, 55] = true) : t = 33 ∨ t = 55 := by
  simp only [memN, Bool.or_eq_true, Bool.or_false] at h
  rcases h with h | h
  · exact .inl (Nat.eq_of_beq_eq_true h).symm
  · exact .inr (Nat.eq_of_beq_eq_true h).symm
theorem tyOk (F : Nat) (l : List (Nat × EK)) : TyOk Tryd.prog (ctx F l) := by
  refine tyOk_of (n := 176) tbl_eq fun t ht => ?_
  rcases eq_mem ht with rfl | rfl
  · exact eqOk_of (d := 10) (by decide) k33 (by kernel_rfl) (by kernel_rfl)
  · exact eqOk_of (d := 10) (by decide) k55 (by kernel_rfl) (by kernel_rfl)
theorem mixed : Tryd.prog.follows .mixedOrders = true := by kernel_rfl
end Go.PS
end

section
namespace Go.PS
open Go.Proofs
def body (f : Func) : Code := f.body.getD .skip
/-- a function's loops, as they stand in its text -/
def lp (f : Func) (k : Nat) : Code := gt .skip (loopsOf (body f)) k
end Go.PS
end

section
namespace Go.PS
open Go.Proofs Go.RowKit

/-- what the library's tables hold when the call begins -/
structure Laid (W0 : World) : Prop where
  utf8 : Lib.Utf8Tabs 1 2 W0
  pow : Lib.TabIs Tryd.prog W0 "internal/strconv.uint64pow10" .u64 Lib.pow10Tab
  syn : ∃ ev, W0.cell? ⟨3, 0, none⟩ = some ev ∧ (ev = .nilIface ∨ ∃ te pe, ev = .iface te pe)
  rng : ∃ ev, W0.cell? ⟨4, 0, none⟩ = some ev ∧ (ev = .nilIface ∨ ∃ te pe, ev = .iface te pe)

section
variable {W0 w : World} {o : Own}

theorem Gl.cell (g : Gl W0 o w) {b off : Nat} {x : Value} (h : W0.cell? ⟨b, off, none⟩ = some x) : w.cell? ⟨b, off, none⟩ = some x := by
  have hb := World.block_lt_of_cell? W0 _ h
  rw [World.cell?_of_block (w := W0) (g.keep b hb).1]; exact h

theorem Gl.utf8 (g : Gl W0 o w) (h : Laid W0) : Lib.Utf8Tabs 1 2 w :=
  ⟨fun c hc => g.cell (h.utf8.1 c hc), fun i hi => ⟨g.cell (h.utf8.2 i hi).1, g.cell (h.utf8.2 i hi).2⟩⟩

theorem Gl.pow (g : Gl W0 o w) (h : Laid W0) : Lib.TabIs Tryd.prog w "internal/strconv.uint64pow10" .u64 Lib.pow10Tab := by
  have h1 := h.pow
  unfold Lib.TabIs World.var? at *
  cases hg : Tryd.prog.globalNamed "internal/strconv.uint64pow10" with
  | none => rw [hg] at h1; simp at h1
  | some b =>
    rw [hg] at h1
    simp only [Option.bind_some] at h1 ⊢
    have hb : b < W0.heap.size := by
      by_cases hb : b < W0.heap.size
      · exact hb
      · rw [Array.getElem?_eq_none (by omega)] at h1; simp at h1
    rw [(g.keep b hb).1]; exact h1

theorem Grow.of_below (g : Gl W0 o w) {w' : World} (h : Below w.heap.size w w') : Grow o w o w' :=
  ⟨h.os, h.tape, h.output, h.size, fun b hb => ⟨h.block b hb, rfl⟩, fun b hb => Nat.lt_of_lt_of_le (g.fin b hb) h.size⟩

/-- a contract of the library: it hands back data of its own -/
theorem lib_of {f : FuncId} {fn : Func} {c : Code} (hf : Tryd.prog.funcs[f]? = some fn) (hb : fn.body = some c) (hn : (fn.name == "runtime.NumGoroutine") = false) {S : List PV → Tr PV}
    (h : ∀ args v, (S args).val = some v → ∀ o sig w xs, Gl W0 o w → PEncL o w sig args xs → Calls Tryd.prog f xs.toArray w fun e w' => ∃ x, e = .returned x ∧ Below w.heap.size w w' ∧ (∀ o sig, PEnc o w' sig v x) ∧ ∀ k, (cmpV v k).noOwn) : EKOk Tryd.prog W0 f (.pure S) := by
  refine ⟨enters_of hf hb hn, ?_⟩
  intro args v hs o sig w xs hg _ hx
  refine (h args v hs o sig w xs hg hx).mono ?_
  rintro e w' ⟨x, rfl, h1, h2, h3⟩
  exact ⟨x, o, rfl, .of_below hg h1, h2 _ _, fun k => Cap.of_noOwn (h3 k)⟩

/-! strings.IndexByte -/
/-- the place of a byte in a text; below 0: none -/
def idxB (s : List UInt8) (b : Int) : Int := Lib.indexByte s b.toNat.toUInt8
def S37 : List PV → Tr PV
  | [.d (.str s), .d (.int .u8 b)] => .ok (.d (.int .i64 (idxB s b)))
  | _ => .no

theorem bodySome (f : Func) (h : f.body.isSome = true) : f.body = some (body f) := by
  cases hb : f.body with
  | none => rw [hb] at h; simp at h
  | some c => simp [body, hb]

theorem ok37 : EKOk Tryd.prog W0 37 (.pure S37) := by
  refine lib_of Tryd.func37 (bodySome _ (by kernel_rfl)) (by kernel_rfl) fun args v h o sig w xs hg hx => ?_
  unfold S37 at h
  split at h
  · simp only [Tr.val_ok, Option.some.injEq] at h
    subst h
    cases hx with | cons h1 t =>
    cases t with | cons h2 t =>
    cases t
    cases h1 with | d h1 =>
    cases h1 with | str _ hs =>
    cases h2 with | d h2 =>
    cases h2
    refine (Tryd.strings_IndexByte _ _ w).mono ?_
    rintro e w' ⟨rfl, rfl⟩
    exact ⟨_, rfl, .refl _ _, fun _ _ => .d (.int _ _), fun k => by unfold cmpV; dsimp only; split <;> trivial⟩
  · simp [Tr.val_no] at h

/-! strings.Compare -/
def S59 : List PV → Tr PV
  | [.d (.str a), .d (.str b)] => .ok (.d (.int .i64 (Lib.compareBytes a b)))
  | _ => .no

theorem ok59 : EKOk Tryd.prog W0 59 (.pure S59) := by
  refine lib_of Tryd.func59 (bodySome _ (by kernel_rfl)) (by kernel_rfl) fun args v h o sig w xs hg hx => ?_
  unfold S59 at h
  split at h
  · simp only [Tr.val_ok, Option.some.injEq] at h
    subst h
    cases hx with | cons h1 t =>
    cases t with | cons h2 t =>
    cases t
    cases h1 with | d h1 =>
    cases h1 with | str _ hs =>
    cases h2 with | d h2 =>
    cases h2 with | str _ hs =>
    refine (Tryd.strings_Compare _ _ w).mono ?_
    rintro e w' ⟨rfl, rfl⟩
    exact ⟨_, rfl, .refl _ _, fun _ _ => .d (.int _ _), fun k => by unfold cmpV; dsimp only; split <;> trivial⟩
  · simp [Tr.val_no] at h

theorem two_noOwn (a b : DV) (k : Nat) : (cmpV (.tup [.d a, .d b]) k).noOwn := by
  unfold cmpV; dsimp only
  rcases k with _ | _ | k <;> simp [gt] <;> trivial

/-! utf8.DecodeRuneInString -/
def runeC (s : List UInt8) : Int := ((Lib.decodeGo ⟨s.toArray⟩).1 : Nat)
def runeN (s : List UInt8) : Int := ((Lib.decodeGo ⟨s.toArray⟩).2 : Nat)
def S75 : List PV → Tr PV
  | [.d (.str s)] => .ok (.tup [.d (.int .i32 (runeC s)), .d (.int .i64 (runeN s))])
  | _ => .no

theorem ok75 (hW : Laid W0) : EKOk Tryd.prog W0 75 (.pure S75) := by
  refine lib_of Tryd.func75 (bodySome _ (by kernel_rfl)) (by kernel_rfl) fun args v h o sig w xs hg hx => ?_
  unfold S75 at h
  split at h
  · simp only [Tr.val_ok, Option.some.injEq] at h
    subst h
    cases hx with | cons h1 t =>
    cases t
    cases h1 with | d h1 =>
    cases h1 with | str _ hs =>
    refine (Tryd.utf8_DecodeRuneInString _ w (hg.utf8 hW)).mono ?_
    rintro e w' ⟨rfl, hb⟩
    exact ⟨_, rfl, hb, fun _ _ => .tup (.cons (.d (.int _ _)) (.cons (.d (.int _ _)) .nil)), fun k => two_noOwn _ _ k⟩
  · simp [Tr.val_no] at h

/-! strconv.Itoa -/
def S49 : List PV → Tr PV
  | [.d (.int .i64 n)] => .chk (decide (-9223372036854775808 ≤ n) && decide (n ≤ 9223372036854775807)) (.ok (.d (.str (Lib.itoa n))))
  | _ => .no

theorem itoa_len (n : Int) (h0 : -9223372036854775808 ≤ n) (h1 : n ≤ 9223372036854775807) : (Lib.itoa n).length ≤ 9223372036854775807 := by
  have := Lib.itoa_length_le n h0 h1
  omega

theorem ok49 (hW : Laid W0) : EKOk Tryd.prog W0 49 (.pure S49) := by
  refine lib_of Tryd.func49 (bodySome _ (by kernel_rfl)) (by kernel_rfl) fun args v h o sig w xs hg hx => ?_
  unfold S49 at h
  split at h
  · simp only [Tr.val_ok, Tr.val_chk, chk_some, Option.some.injEq, Bool.and_eq_true, decide_eq_true_eq] at h
    obtain ⟨⟨h0, h1⟩, rfl⟩ := h
    cases hx with | cons h2 t =>
    cases t
    cases h2 with | d h2 =>
    cases h2
    refine (Tryd.strconv_Itoa _ h0 h1 w (hg.pow hW)).mono ?_
    rintro e w' ⟨rfl, k, os, rfl⟩
    refine ⟨_, rfl, ?_, fun _ _ => .d (.str _ (itoa_len _ h0 h1)), fun k => by unfold cmpV; dsimp only; split <;> trivial⟩
    refine ⟨rfl, rfl, rfl, ?_, fun j hj => ?_⟩
    · show w.heap.size ≤ (w.heap ++ os).size
      rw [Array.size_append]; omega
    · show (w.heap ++ os)[j]? = _
      rw [Array.getElem?_append, if_pos hj]
  · simp [Tr.val_no] at h

/-! strconv.Atoi -/
def atoiOk (s : List UInt8) : Bool := match Lib.atoiAll s with | .ok _ => true | _ => false
def atoiV (s : List UInt8) : Int := match Lib.atoiAll s with | .ok v => v | .range => Lib.atoiSat s | _ => 0
def S78 : List PV → Tr PV
  | [.d (.str s)] => .chk (decide (s.length ≤ 281474976710656)) (.cnd (atoiOk s) (.ok (.tup [.d (.int .i64 (atoiV s)), .d .nili])) (.ok (.tup [.d (.int .i64 (atoiV s)), .d (.ifc 134)])))
  | _ => .no

theorem ok78 (hW : Laid W0) : EKOk Tryd.prog W0 78 (.pure S78) := by
  refine lib_of Tryd.func78 (bodySome _ (by kernel_rfl)) (by kernel_rfl) fun args v h o sig w xs hg hx => ?_
  unfold S78 at h
  split at h
  · rename_i s
    simp only [Tr.val_ok, Tr.val_chk, Tr.val_cnd, chk_some, cnd_some, Option.some.injEq, decide_eq_true_eq] at h
    obtain ⟨hl, h⟩ := h
    cases hx with | cons h2 t =>
    cases t
    cases h2 with | d h2 =>
    cases h2 with | str _ hs =>
    cases ha : Lib.atoiAll s with
    | ok n =>
      simp only [atoiOk, atoiV, ha, true_and, Bool.true_eq_false, false_and, or_false] at h
      subst h
      refine (Tryd.strconv_Atoi_ok ⟨s.toArray⟩ (by show s.length ≤ _; omega) n ha w).mono ?_
      rintro e w' ⟨rfl, hw⟩
      refine ⟨_, rfl, ?_, fun _ _ => .tup (.cons (.d (.int _ _)) (.cons (.d .nili) .nil)), fun k => two_noOwn _ _ k⟩
      rcases hw with rfl | ⟨t, rfl⟩
      · exact .refl _ _
      · exact Lib.bytesWorld_below w 5 t
    | range =>
      simp only [atoiOk, atoiV, ha, true_and, Bool.false_eq_true, false_and, false_or] at h
      subst h
      obtain ⟨ev, hv, hev⟩ := hW.rng
      refine (Tryd.strconv_Atoi_range ⟨s.toArray⟩ hl ha ev w (hg.cell hv) hev).mono ?_
      rintro e w' ⟨N, rfl, _, _, hb⟩
      exact ⟨_, rfl, hb, fun _ _ => .tup (.cons (.d (.int _ _)) (.cons (.d (.ifc _ _)) .nil)), fun k => two_noOwn _ _ k⟩
    | _ =>
      simp only [atoiOk, atoiV, ha, true_and, Bool.false_eq_true, false_and, false_or] at h
      subst h
      obtain ⟨ev, hv, hev⟩ := hW.syn
      refine (Any.strconv_Atoi_syntax Tryd.laysC172 ⟨s.toArray⟩ hl ha ev w (hg.cell hv) hev).mono ?_
      rintro e w' ⟨N, rfl, _, _, hb⟩
      exact ⟨_, rfl, hb, fun _ _ => .tup (.cons (.d (.int _ _)) (.cons (.d (.ifc _ _)) .nil)), fun k => two_noOwn _ _ k⟩
  · simp [Tr.val_no] at h

end
end Go.PS
end

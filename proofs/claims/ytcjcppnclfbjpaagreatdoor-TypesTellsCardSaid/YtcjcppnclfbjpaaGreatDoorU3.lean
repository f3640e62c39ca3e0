/- A part of the proof of the claim (the pure semantics PS and the contracts of the functions over it). -/
import Derived.Test.YtcjcppnclfbjpaaGreatDoorU0
import Derived.Test.YtcjcppnclfbjpaaGreatDoorU1
import Derived.Test.YtcjcppnclfbjpaaGreatDoorU2
import Derived.Test.YtcjcppnclfbjpaaGreatDoorProg
import Derived.Test.YtcjcppnclfbjpaaGreatDoorShelf
import Derived.Lib.ItoaLen
import Derived.Lib.DecodeN
import Derived.Lib.MapLaws
import Derived.Stop.FmtQuoteTie
set_option linter.all false
section
namespace Go.PS
open Go.Proofs
def tbl:List TyI:=[
  ⟨.other,1,0,[]⟩,
  ⟨.func,1,8,[.nilf]⟩,
  ⟨.int .i64,1,8,[.int .i64 0]⟩,
  ⟨.int .i64,1,8,[.int .i64 0]⟩,
  ⟨.bool,1,1,[.bool false]⟩,
  ⟨.int .u8,1,1,[.int .u8 0]⟩,
  ⟨.int .u8,1,1,[.int .u8 0]⟩,
  ⟨.struct [(0,2),(1,3),(2,4),(3,6)],4,24,[.int .i64 0,.int .i64 0,.bool false,.int .u8 0]⟩,
  ⟨.struct [(0,2),(1,3),(2,4),(3,6)],4,24,[.int .i64 0,.int .i64 0,.bool false,.int .u8 0]⟩,
  ⟨.str,1,16,[.str []]⟩,
  ⟨.str,1,16,[.str []]⟩,
  ⟨.str,1,16,[.str []]⟩,
  ⟨.int .u64,1,8,[.int .u64 0]⟩,
  ⟨.struct [(0,9),(1,12)],2,24,[.str [],.int .u64 0]⟩,
  ⟨.struct [(0,9),(1,12)],2,24,[.str [],.int .u64 0]⟩,
  ⟨.ptr 330,1,8,[.nilp]⟩,
  ⟨.ptr 333,1,8,[.nilp]⟩,
  ⟨.ptr 340,1,8,[.nilp]⟩,
  ⟨.struct [(0,17)],1,8,[.nilp]⟩,
  ⟨.struct [(0,17)],1,8,[.nilp]⟩,
  ⟨.iface,1,16,[.nili]⟩,
  ⟨.int .i32,1,4,[.int .i32 0]⟩,
  ⟨.slice 104,1,24,[.nils 2]⟩,
  ⟨.int .i64,1,8,[.int .i64 0]⟩,
  ⟨.struct [(0,9),(1,3),(2,4),(3,3),(4,3)],5,48,[.str [],.int .i64 0,.bool false,.int .i64 0,.int .i64 0]⟩,
  ⟨.struct [(0,9),(1,3),(2,4),(3,3),(4,3)],5,48,[.str [],.int .i64 0,.bool false,.int .i64 0,.int .i64 0]⟩,
  ⟨.struct [(0,23),(1,3),(2,3),(3,9),(4,9),(5,25),(10,25),(15,3)],16,160,[.int .i64 0,.int .i64 0,.int .i64 0,.str [],.str [],.str [],.int .i64 0,.bool false,.int .i64 0,.int .i64 0,.str [],.int .i64 0,.bool false,.int .i64 0,.int .i64 0,.int .i64 0]⟩,
  ⟨.struct [(0,23),(1,3),(2,3),(3,9),(4,9),(5,25),(10,25),(15,3)],16,160,[.int .i64 0,.int .i64 0,.int .i64 0,.str [],.str [],.str [],.int .i64 0,.bool false,.int .i64 0,.int .i64 0,.str [],.int .i64 0,.bool false,.int .i64 0,.int .i64 0,.int .i64 0]⟩,
  ⟨.slice 54,1,24,[.nils 12]⟩,
  ⟨.struct [(0,27),(16,28)],17,184,[.int .i64 0,.int .i64 0,.int .i64 0,.str [],.str [],.str [],.int .i64 0,.bool false,.int .i64 0,.int .i64 0,.str [],.int .i64 0,.bool false,.int .i64 0,.int .i64 0,.int .i64 0,.nils 12]⟩,
  ⟨.struct [(0,27),(16,28)],17,184,[.int .i64 0,.int .i64 0,.int .i64 0,.str [],.str [],.str [],.int .i64 0,.bool false,.int .i64 0,.int .i64 0,.str [],.int .i64 0,.bool false,.int .i64 0,.int .i64 0,.int .i64 0,.nils 12]⟩,
  ⟨.func,1,8,[.nilf]⟩,
  ⟨.func,1,8,[.nilf]⟩,
  ⟨.int .i64,1,8,[.int .i64 0]⟩,
  ⟨.other,1,0,[]⟩,
  ⟨.func,1,8,[.nilf]⟩,
  ⟨.other,1,0,[]⟩,
  ⟨.func,1,8,[.nilf]⟩,
  ⟨.func,1,8,[.nilf]⟩,
  ⟨.func,1,8,[.nilf]⟩,
  ⟨.func,1,8,[.nilf]⟩,
  ⟨.func,1,8,[.nilf]⟩,
  ⟨.func,1,8,[.nilf]⟩,
  ⟨.func,1,8,[.nilf]⟩,
  ⟨.int .i64,1,8,[.int .i64 0]⟩,
  ⟨.int .i64,1,8,[.int .i64 0]⟩,
  ⟨.int .i64,1,8,[.int .i64 0]⟩,
  ⟨.struct [(0,46),(1,3),(2,9)],3,32,[.int .i64 0,.int .i64 0,.str []]⟩,
  ⟨.struct [(0,46),(1,3),(2,9)],3,32,[.int .i64 0,.int .i64 0,.str []]⟩,
  ⟨.slice 51,1,24,[.nils 7]⟩,
  ⟨.struct [(0,45),(1,9),(2,48),(5,49),(6,3)],7,88,[.int .i64 0,.str [],.int .i64 0,.int .i64 0,.str [],.nils 7,.int .i64 0]⟩,
  ⟨.struct [(0,45),(1,9),(2,48),(5,49),(6,3)],7,88,[.int .i64 0,.str [],.int .i64 0,.int .i64 0,.str [],.nils 7,.int .i64 0]⟩,
  ⟨.slice 164,1,24,[.nils 3]⟩,
  ⟨.struct [(0,44),(1,51),(8,52),(9,52),(10,3),(11,3)],12,160,[.int .i64 0,.int .i64 0,.str [],.int .i64 0,.int .i64 0,.str [],.nils 7,.int .i64 0,.nils 3,.nils 3,.int .i64 0,.int .i64 0]⟩,
  ⟨.struct [(0,44),(1,51),(8,52),(9,52),(10,3),(11,3)],12,160,[.int .i64 0,.int .i64 0,.str [],.int .i64 0,.int .i64 0,.str [],.nils 7,.int .i64 0,.nils 3,.nils 3,.int .i64 0,.int .i64 0]⟩,
  ⟨.func,1,8,[.nilf]⟩,
  ⟨.func,1,8,[.nilf]⟩,
  ⟨.func,1,8,[.nilf]⟩,
  ⟨.func,1,8,[.nilf]⟩,
  ⟨.struct [(0,27),(16,28)],17,184,[.int .i64 0,.int .i64 0,.int .i64 0,.str [],.str [],.str [],.int .i64 0,.bool false,.int .i64 0,.int .i64 0,.str [],.int .i64 0,.bool false,.int .i64 0,.int .i64 0,.int .i64 0,.nils 12]⟩,
  ⟨.func,1,8,[.nilf]⟩,
  ⟨.other,1,0,[]⟩,
  ⟨.func,1,8,[.nilf]⟩,
  ⟨.other,1,0,[]⟩,
  ⟨.func,1,8,[.nilf]⟩,
  ⟨.func,1,8,[.nilf]⟩,
  ⟨.func,1,8,[.nilf]⟩,
  ⟨.func,1,8,[.nilf]⟩,
  ⟨.func,1,8,[.nilf]⟩,
  ⟨.func,1,8,[.nilf]⟩,
  ⟨.other,1,0,[]⟩,
  ⟨.func,1,8,[.nilf]⟩,
  ⟨.other,1,0,[]⟩,
  ⟨.func,1,8,[.nilf]⟩,
  ⟨.func,1,8,[.nilf]⟩,
  ⟨.func,1,8,[.nilf]⟩,
  ⟨.slice 3,1,24,[.nils 1]⟩,
  ⟨.func,1,8,[.nilf]⟩,
  ⟨.func,1,8,[.nilf]⟩,
  ⟨.slice 142,1,24,[.nils 4]⟩,
  ⟨.other,1,0,[]⟩,
  ⟨.func,1,8,[.nilf]⟩,
  ⟨.slice 105,1,24,[.nils 1]⟩,
  ⟨.struct [(0,22),(1,82)],2,48,[.nils 2,.nils 1]⟩,
  ⟨.struct [(0,22),(1,82)],2,48,[.nils 2,.nils 1]⟩,
  ⟨.struct [(0,22),(1,82)],2,48,[.nils 2,.nils 1]⟩,
  ⟨.struct [(0,30),(17,4),(18,4),(19,9),(20,3)],21,216,[.int .i64 0,.int .i64 0,.int .i64 0,.str [],.str [],.str [],.int .i64 0,.bool false,.int .i64 0,.int .i64 0,.str [],.int .i64 0,.bool false,.int .i64 0,.int .i64 0,.int .i64 0,.nils 12,.bool false,.bool false,.str [],.int .i64 0]⟩,
  ⟨.struct [(0,30),(17,4),(18,4),(19,9),(20,3)],21,216,[.int .i64 0,.int .i64 0,.int .i64 0,.str [],.str [],.str [],.int .i64 0,.bool false,.int .i64 0,.int .i64 0,.str [],.int .i64 0,.bool false,.int .i64 0,.int .i64 0,.int .i64 0,.nils 12,.bool false,.bool false,.str [],.int .i64 0]⟩,
  ⟨.other,1,0,[]⟩,
  ⟨.func,1,8,[.nilf]⟩,
  ⟨.other,1,0,[]⟩,
  ⟨.func,1,8,[.nilf]⟩,
  ⟨.func,1,8,[.nilf]⟩,
  ⟨.func,1,8,[.nilf]⟩,
  ⟨.func,1,8,[.nilf]⟩,
  ⟨.other,1,0,[]⟩,
  ⟨.func,1,8,[.nilf]⟩,
  ⟨.other,1,0,[]⟩,
  ⟨.func,1,8,[.nilf]⟩,
  ⟨.func,1,8,[.nilf]⟩,
  ⟨.func,1,8,[.nilf]⟩,
  ⟨.func,1,8,[.nilf]⟩,
  ⟨.int .i64,1,8,[.int .i64 0]⟩,
  ⟨.struct [(0,9),(1,102)],2,24,[.str [],.int .i64 0]⟩,
  ⟨.struct [(0,9),(1,102)],2,24,[.str [],.int .i64 0]⟩,
  ⟨.slice 48,1,24,[.nils 3]⟩,
  ⟨.func,1,8,[.nilf]⟩,
  ⟨.func,1,8,[.nilf]⟩,
  ⟨.func,1,8,[.nilf]⟩,
  ⟨.struct [(0,3),(1,33)],2,16,[.int .i64 0,.int .i64 0]⟩,
  ⟨.struct [(0,3),(1,33)],2,16,[.int .i64 0,.int .i64 0]⟩,
  ⟨.other,1,0,[]⟩,
  ⟨.func,1,8,[.nilf]⟩,
  ⟨.func,1,8,[.nilf]⟩,
  ⟨.func,1,8,[.nilf]⟩,
  ⟨.slice 117,1,24,[.nils 1]⟩,
  ⟨.func,1,8,[.nilf]⟩,
  ⟨.int .i64,1,8,[.int .i64 0]⟩,
  ⟨.func,1,8,[.nilf]⟩,
  ⟨.func,1,8,[.nilf]⟩,
  ⟨.func,1,8,[.nilf]⟩,
  ⟨.func,1,8,[.nilf]⟩,
  ⟨.other,1,0,[]⟩,
  ⟨.func,1,8,[.nilf]⟩,
  ⟨.func,1,8,[.nilf]⟩,
  ⟨.ptr 127,1,8,[.nilp]⟩,
  ⟨.struct [(0,79)],1,24,[.nils 4]⟩,
  ⟨.struct [(0,79)],1,24,[.nils 4]⟩,
  ⟨.func,1,8,[.nilf]⟩,
  ⟨.func,1,8,[.nilf]⟩,
  ⟨.func,1,8,[.nilf]⟩,
  ⟨.func,1,8,[.nilf]⟩,
  ⟨.func,1,8,[.nilf]⟩,
  ⟨.func,1,8,[.nilf]⟩,
  ⟨.func,1,8,[.nilf]⟩,
  ⟨.func,1,8,[.nilf]⟩,
  ⟨.func,1,8,[.nilf]⟩,
  ⟨.func,1,8,[.nilf]⟩,
  ⟨.func,1,8,[.nilf]⟩,
  ⟨.func,1,8,[.nilf]⟩,
  ⟨.int .i64,1,8,[.int .i64 0]⟩,
  ⟨.struct [(0,140),(1,9),(2,3),(3,3)],4,40,[.int .i64 0,.str [],.int .i64 0,.int .i64 0]⟩,
  ⟨.struct [(0,140),(1,9),(2,3),(3,3)],4,40,[.int .i64 0,.str [],.int .i64 0,.int .i64 0]⟩,
  ⟨.func,1,8,[.nilf]⟩,
  ⟨.struct [(0,3),(1,33)],2,16,[.int .i64 0,.int .i64 0]⟩,
  ⟨.struct [(0,3),(1,33)],2,16,[.int .i64 0,.int .i64 0]⟩,
  ⟨.ptr 148,1,8,[.nilp]⟩,
  ⟨.struct [(0,79),(1,3)],2,32,[.nils 4,.int .i64 0]⟩,
  ⟨.struct [(0,79),(1,3)],2,32,[.nils 4,.int .i64 0]⟩,
  ⟨.func,1,8,[.nilf]⟩,
  ⟨.other,1,0,[]⟩,
  ⟨.func,1,8,[.nilf]⟩,
  ⟨.ptr 154,1,8,[.nilp]⟩,
  ⟨.struct [(0,79),(1,3),(2,3),(3,3),(4,3)],5,56,[.nils 4,.int .i64 0,.int .i64 0,.int .i64 0,.int .i64 0]⟩,
  ⟨.struct [(0,79),(1,3),(2,3),(3,3),(4,3)],5,56,[.nils 4,.int .i64 0,.int .i64 0,.int .i64 0,.int .i64 0]⟩,
  ⟨.func,1,8,[.nilf]⟩,
  ⟨.func,1,8,[.nilf]⟩,
  ⟨.func,1,8,[.nilf]⟩,
  ⟨.func,1,8,[.nilf]⟩,
  ⟨.func,1,8,[.nilf]⟩,
  ⟨.func,1,8,[.nilf]⟩,
  ⟨.func,1,8,[.nilf]⟩,
  ⟨.func,1,8,[.nilf]⟩,
  ⟨.struct [(0,9),(1,4),(2,3)],3,32,[.str [],.bool false,.int .i64 0]⟩,
  ⟨.struct [(0,9),(1,4),(2,3)],3,32,[.str [],.bool false,.int .i64 0]⟩,
  ⟨.ptr 168,1,8,[.nilp]⟩,
  ⟨.slice 5,1,24,[.nils 1]⟩,
  ⟨.struct [(0,166),(1,3)],2,32,[.nils 1,.int .i64 0]⟩,
  ⟨.struct [(0,166),(1,3)],2,32,[.nils 1,.int .i64 0]⟩,
  ⟨.func,1,8,[.nilf]⟩,
  ⟨.func,1,8,[.nilf]⟩,
  ⟨.other,1,0,[]⟩,
  ⟨.func,1,8,[.nilf]⟩,
  ⟨.func,1,8,[.nilf]⟩,
  ⟨.struct [(0,4),(1,9),(2,9),(3,4)],4,48,[.bool false,.str [],.str [],.bool false]⟩,
  ⟨.struct [(0,4),(1,9),(2,9),(3,4)],4,48,[.bool false,.str [],.str [],.bool false]⟩,
  ⟨.func,1,8,[.nilf]⟩,
  ⟨.func,1,8,[.nilf]⟩,
  ⟨.func,1,8,[.nilf]⟩,
  ⟨.func,1,8,[.nilf]⟩,
  ⟨.func,1,8,[.nilf]⟩,
  ⟨.slice 9,1,24,[.nils 1]⟩,
  ⟨.func,1,8,[.nilf]⟩,
  ⟨.func,1,8,[.nilf]⟩,
  ⟨.func,1,8,[.nilf]⟩,
  ⟨.func,1,8,[.nilf]⟩,
  ⟨.func,1,8,[.nilf]⟩,
  ⟨.func,1,8,[.nilf]⟩,
  ⟨.func,1,8,[.nilf]⟩,
  ⟨.func,1,8,[.nilf]⟩,
  ⟨.array 8 104,16,192,[.str [],.int .i64 0,.str [],.int .i64 0,.str [],.int .i64 0,.str [],.int .i64 0,.str [],.int .i64 0,.str [],.int .i64 0,.str [],.int .i64 0,.str [],.int .i64 0]⟩,
  ⟨.func,1,8,[.nilf]⟩,
  ⟨.func,1,8,[.nilf]⟩,
  ⟨.func,1,8,[.nilf]⟩,
  ⟨.func,1,8,[.nilf]⟩,
  ⟨.func,1,8,[.nilf]⟩,
  ⟨.func,1,8,[.nilf]⟩,
  ⟨.func,1,8,[.nilf]⟩,
  ⟨.func,1,8,[.nilf]⟩,
  ⟨.func,1,8,[.nilf]⟩,
  ⟨.func,1,8,[.nilf]⟩,
  ⟨.func,1,8,[.nilf]⟩,
  ⟨.slice 23,1,24,[.nils 1]⟩,
  ⟨.func,1,8,[.nilf]⟩,
  ⟨.func,1,8,[.nilf]⟩,
  ⟨.func,1,8,[.nilf]⟩,
  ⟨.func,1,8,[.nilf]⟩,
  ⟨.func,1,8,[.nilf]⟩,
  ⟨.func,1,8,[.nilf]⟩,
  ⟨.func,1,8,[.nilf]⟩,
  ⟨.func,1,8,[.nilf]⟩,
  ⟨.func,1,8,[.nilf]⟩,
  ⟨.func,1,8,[.nilf]⟩,
  ⟨.func,1,8,[.nilf]⟩,
  ⟨.func,1,8,[.nilf]⟩,
  ⟨.other,1,0,[]⟩,
  ⟨.func,1,8,[.nilf]⟩,
  ⟨.func,1,8,[.nilf]⟩,
  ⟨.func,1,8,[.nilf]⟩,
  ⟨.func,1,8,[.nilf]⟩,
  ⟨.func,1,8,[.nilf]⟩,
  ⟨.func,1,8,[.nilf]⟩,
  ⟨.func,1,8,[.nilf]⟩,
  ⟨.func,1,8,[.nilf]⟩,
  ⟨.func,1,8,[.nilf]⟩,
  ⟨.func,1,8,[.nilf]⟩,
  ⟨.ptr 175,1,8,[.nilp]⟩,
  ⟨.func,1,8,[.nilf]⟩,
  ⟨.func,1,8,[.nilf]⟩,
  ⟨.ptr 231,1,8,[.nilp]⟩,
  ⟨.struct [(0,229),(1,166)],2,32,[.nilp,.nils 1]⟩,
  ⟨.struct [(0,229),(1,166)],2,32,[.nilp,.nils 1]⟩,
  ⟨.iface,1,16,[.nili]⟩,
  ⟨.iface,1,16,[.nili]⟩,
  ⟨.other,1,0,[]⟩,
  ⟨.func,1,8,[.nilf]⟩,
  ⟨.func,1,8,[.nilf]⟩,
  ⟨.func,1,8,[.nilf]⟩,
  ⟨.func,1,8,[.nilf]⟩,
  ⟨.func,1,8,[.nilf]⟩,
  ⟨.func,1,8,[.nilf]⟩,
  ⟨.func,1,8,[.nilf]⟩,
  ⟨.func,1,8,[.nilf]⟩,
  ⟨.func,1,8,[.nilf]⟩,
  ⟨.func,1,8,[.nilf]⟩,
  ⟨.func,1,8,[.nilf]⟩,
  ⟨.func,1,8,[.nilf]⟩,
  ⟨.func,1,8,[.nilf]⟩,
  ⟨.func,1,8,[.nilf]⟩,
  ⟨.func,1,8,[.nilf]⟩,
  ⟨.func,1,8,[.nilf]⟩,
  ⟨.func,1,8,[.nilf]⟩,
  ⟨.other,1,0,[]⟩,
  ⟨.func,1,8,[.nilf]⟩,
  ⟨.other,1,0,[]⟩,
  ⟨.func,1,8,[.nilf]⟩,
  ⟨.other,1,0,[]⟩,
  ⟨.func,1,8,[.nilf]⟩,
  ⟨.other,1,0,[]⟩,
  ⟨.func,1,8,[.nilf]⟩,
  ⟨.func,1,8,[.nilf]⟩,
  ⟨.func,1,8,[.nilf]⟩,
  ⟨.func,1,8,[.nilf]⟩,
  ⟨.func,1,8,[.nilf]⟩,
  ⟨.func,1,8,[.nilf]⟩,
  ⟨.ptr 5,1,8,[.nilp]⟩,
  ⟨.func,1,8,[.nilf]⟩,
  ⟨.func,1,8,[.nilf]⟩,
  ⟨.func,1,8,[.nilf]⟩,
  ⟨.func,1,8,[.nilf]⟩,
  ⟨.func,1,8,[.nilf]⟩,
  ⟨.func,1,8,[.nilf]⟩,
  ⟨.ptr 274,1,8,[.nilp]⟩,
  ⟨.struct [(0,9),(1,3)],2,24,[.str [],.int .i64 0]⟩,
  ⟨.struct [(0,9),(1,3)],2,24,[.str [],.int .i64 0]⟩,
  ⟨.func,1,8,[.nilf]⟩,
  ⟨.struct [(0,3)],1,8,[.int .i64 0]⟩,
  ⟨.struct [(0,3)],1,8,[.int .i64 0]⟩,
  ⟨.other,1,0,[]⟩,
  ⟨.func,1,8,[.nilf]⟩,
  ⟨.int .u64,1,8,[.int .u64 0]⟩,
  ⟨.array 24 5,24,24,[.int .u8 0,.int .u8 0,.int .u8 0,.int .u8 0,.int .u8 0,.int .u8 0,.int .u8 0,.int .u8 0,.int .u8 0,.int .u8 0,.int .u8 0,.int .u8 0,.int .u8 0,.int .u8 0,.int .u8 0,.int .u8 0,.int .u8 0,.int .u8 0,.int .u8 0,.int .u8 0,.int .u8 0,.int .u8 0,.int .u8 0,.int .u8 0]⟩,
  ⟨.int .u64,1,8,[.int .u64 0]⟩,
  ⟨.func,1,8,[.nilf]⟩,
  ⟨.func,1,8,[.nilf]⟩,
  ⟨.other,1,0,[]⟩,
  ⟨.func,1,8,[.nilf]⟩,
  ⟨.other,1,8,[]⟩,
  ⟨.func,1,8,[.nilf]⟩,
  ⟨.func,1,8,[.nilf]⟩,
  ⟨.func,1,8,[.nilf]⟩,
  ⟨.func,1,8,[.nilf]⟩,
  ⟨.other,1,0,[]⟩,
  ⟨.func,1,8,[.nilf]⟩,
  ⟨.other,1,0,[]⟩,
  ⟨.func,1,8,[.nilf]⟩,
  ⟨.func,1,8,[.nilf]⟩,
  ⟨.func,1,8,[.nilf]⟩,
  ⟨.func,1,8,[.nilf]⟩,
  ⟨.array 20 282,20,160,[.int .u64 0,.int .u64 0,.int .u64 0,.int .u64 0,.int .u64 0,.int .u64 0,.int .u64 0,.int .u64 0,.int .u64 0,.int .u64 0,.int .u64 0,.int .u64 0,.int .u64 0,.int .u64 0,.int .u64 0,.int .u64 0,.int .u64 0,.int .u64 0,.int .u64 0,.int .u64 0]⟩,
  ⟨.int .u32,1,4,[.int .u32 0]⟩,
  ⟨.array 65 5,65,65,[.int .u8 0,.int .u8 0,.int .u8 0,.int .u8 0,.int .u8 0,.int .u8 0,.int .u8 0,.int .u8 0,.int .u8 0,.int .u8 0,.int .u8 0,.int .u8 0,.int .u8 0,.int .u8 0,.int .u8 0,.int .u8 0,.int .u8 0,.int .u8 0,.int .u8 0,.int .u8 0,.int .u8 0,.int .u8 0,.int .u8 0,.int .u8 0,.int .u8 0,.int .u8 0,.int .u8 0,.int .u8 0,.int .u8 0,.int .u8 0,.int .u8 0,.int .u8 0,.int .u8 0,.int .u8 0,.int .u8 0,.int .u8 0,.int .u8 0,.int .u8 0,.int .u8 0,.int .u8 0,.int .u8 0,.int .u8 0,.int .u8 0,.int .u8 0,.int .u8 0,.int .u8 0,.int .u8 0,.int .u8 0,.int .u8 0,.int .u8 0,.int .u8 0,.int .u8 0,.int .u8 0,.int .u8 0,.int .u8 0,.int .u8 0,.int .u8 0,.int .u8 0,.int .u8 0,.int .u8 0,.int .u8 0,.int .u8 0,.int .u8 0,.int .u8 0,.int .u8 0]⟩,
  ⟨.func,1,8,[.nilf]⟩,
  ⟨.func,1,8,[.nilf]⟩,
  ⟨.func,1,8,[.nilf]⟩,
  ⟨.func,1,8,[.nilf]⟩,
  ⟨.func,1,8,[.nilf]⟩,
  ⟨.func,1,8,[.nilf]⟩,
  ⟨.array 256 5,256,256,[.int .u8 0,.int .u8 0,.int .u8 0,.int .u8 0,.int .u8 0,.int .u8 0,.int .u8 0,.int .u8 0,.int .u8 0,.int .u8 0,.int .u8 0,.int .u8 0,.int .u8 0,.int .u8 0,.int .u8 0,.int .u8 0,.int .u8 0,.int .u8 0,.int .u8 0,.int .u8 0,.int .u8 0,.int .u8 0,.int .u8 0,.int .u8 0,.int .u8 0,.int .u8 0,.int .u8 0,.int .u8 0,.int .u8 0,.int .u8 0,.int .u8 0,.int .u8 0,.int .u8 0,.int .u8 0,.int .u8 0,.int .u8 0,.int .u8 0,.int .u8 0,.int .u8 0,.int .u8 0,.int .u8 0,.int .u8 0,.int .u8 0,.int .u8 0,.int .u8 0,.int .u8 0,.int .u8 0,.int .u8 0,.int .u8 0,.int .u8 0,.int .u8 0,.int .u8 0,.int .u8 0,.int .u8 0,.int .u8 0,.int .u8 0,.int .u8 0,.int .u8 0,.int .u8 0,.int .u8 0,.int .u8 0,.int .u8 0,.int .u8 0,.int .u8 0,.int .u8 0,.int .u8 0,.int .u8 0,.int .u8 0,.int .u8 0,.int .u8 0,.int .u8 0,.int .u8 0,.int .u8 0,.int .u8 0,.int .u8 0,.int .u8 0,.int .u8 0,.int .u8 0,.int .u8 0,.int .u8 0,.int .u8 0,.int .u8 0,.int .u8 0,.int .u8 0,.int .u8 0,.int .u8 0,.int .u8 0,.int .u8 0,.int .u8 0,.int .u8 0,.int .u8 0,.int .u8 0,.int .u8 0,.int .u8 0,.int .u8 0,.int .u8 0,.int .u8 0,.int .u8 0,.int .u8 0,.int .u8 0,.int .u8 0,.int .u8 0,.int .u8 0,.int .u8 0,.int .u8 0,.int .u8 0,.int .u8 0,.int .u8 0,.int .u8 0,.int .u8 0,.int .u8 0,.int .u8 0,.int .u8 0,.int .u8 0,.int .u8 0,.int .u8 0,.int .u8 0,.int .u8 0,.int .u8 0,.int .u8 0,.int .u8 0,.int .u8 0,.int .u8 0,.int .u8 0,.int .u8 0,.int .u8 0,.int .u8 0,.int .u8 0,.int .u8 0,.int .u8 0,.int .u8 0,.int .u8 0,.int .u8 0,.int .u8 0,.int .u8 0,.int .u8 0,.int .u8 0,.int .u8 0,.int .u8 0,.int .u8 0,.int .u8 0,.int .u8 0,.int .u8 0,.int .u8 0,.int .u8 0,.int .u8 0,.int .u8 0,.int .u8 0,.int .u8 0,.int .u8 0,.int .u8 0,.int .u8 0,.int .u8 0,.int .u8 0,.int .u8 0,.int .u8 0,.int .u8 0,.int .u8 0,.int .u8 0,.int .u8 0,.int .u8 0,.int .u8 0,.int .u8 0,.int .u8 0,.int .u8 0,.int .u8 0,.int .u8 0,.int .u8 0,.int .u8 0,.int .u8 0,.int .u8 0,.int .u8 0,.int .u8 0,.int .u8 0,.int .u8 0,.int .u8 0,.int .u8 0,.int .u8 0,.int .u8 0,.int .u8 0,.int .u8 0,.int .u8 0,.int .u8 0,.int .u8 0,.int .u8 0,.int .u8 0,.int .u8 0,.int .u8 0,.int .u8 0,.int .u8 0,.int .u8 0,.int .u8 0,.int .u8 0,.int .u8 0,.int .u8 0,.int .u8 0,.int .u8 0,.int .u8 0,.int .u8 0,.int .u8 0,.int .u8 0,.int .u8 0,.int .u8 0,.int .u8 0,.int .u8 0,.int .u8 0,.int .u8 0,.int .u8 0,.int .u8 0,.int .u8 0,.int .u8 0,.int .u8 0,.int .u8 0,.int .u8 0,.int .u8 0,.int .u8 0,.int .u8 0,.int .u8 0,.int .u8 0,.int .u8 0,.int .u8 0,.int .u8 0,.int .u8 0,.int .u8 0,.int .u8 0,.int .u8 0,.int .u8 0,.int .u8 0,.int .u8 0,.int .u8 0,.int .u8 0,.int .u8 0,.int .u8 0,.int .u8 0,.int .u8 0,.int .u8 0,.int .u8 0,.int .u8 0,.int .u8 0,.int .u8 0,.int .u8 0,.int .u8 0,.int .u8 0,.int .u8 0,.int .u8 0,.int .u8 0,.int .u8 0,.int .u8 0,.int .u8 0,.int .u8 0,.int .u8 0,.int .u8 0,.int .u8 0,.int .u8 0,.int .u8 0,.int .u8 0]⟩,
  ⟨.struct [(0,5),(1,5)],2,2,[.int .u8 0,.int .u8 0]⟩,
  ⟨.struct [(0,5),(1,5)],2,2,[.int .u8 0,.int .u8 0]⟩,
  ⟨.array 16 310,32,32,[.int .u8 0,.int .u8 0,.int .u8 0,.int .u8 0,.int .u8 0,.int .u8 0,.int .u8 0,.int .u8 0,.int .u8 0,.int .u8 0,.int .u8 0,.int .u8 0,.int .u8 0,.int .u8 0,.int .u8 0,.int .u8 0,.int .u8 0,.int .u8 0,.int .u8 0,.int .u8 0,.int .u8 0,.int .u8 0,.int .u8 0,.int .u8 0,.int .u8 0,.int .u8 0,.int .u8 0,.int .u8 0,.int .u8 0,.int .u8 0,.int .u8 0,.int .u8 0]⟩,
  ⟨.int .i64,1,8,[.int .i64 0]⟩,
  ⟨.other,1,0,[]⟩,
  ⟨.func,1,8,[.nilf]⟩,
  ⟨.ptr 323,1,8,[.nilp]⟩,
  ⟨.func,1,8,[.nilf]⟩,
  ⟨.func,1,8,[.nilf]⟩,
  ⟨.array 32 5,32,32,[.int .u8 0,.int .u8 0,.int .u8 0,.int .u8 0,.int .u8 0,.int .u8 0,.int .u8 0,.int .u8 0,.int .u8 0,.int .u8 0,.int .u8 0,.int .u8 0,.int .u8 0,.int .u8 0,.int .u8 0,.int .u8 0,.int .u8 0,.int .u8 0,.int .u8 0,.int .u8 0,.int .u8 0,.int .u8 0,.int .u8 0,.int .u8 0,.int .u8 0,.int .u8 0,.int .u8 0,.int .u8 0,.int .u8 0,.int .u8 0,.int .u8 0,.int .u8 0]⟩,
  ⟨.array 64 5,64,64,[.int .u8 0,.int .u8 0,.int .u8 0,.int .u8 0,.int .u8 0,.int .u8 0,.int .u8 0,.int .u8 0,.int .u8 0,.int .u8 0,.int .u8 0,.int .u8 0,.int .u8 0,.int .u8 0,.int .u8 0,.int .u8 0,.int .u8 0,.int .u8 0,.int .u8 0,.int .u8 0,.int .u8 0,.int .u8 0,.int .u8 0,.int .u8 0,.int .u8 0,.int .u8 0,.int .u8 0,.int .u8 0,.int .u8 0,.int .u8 0,.int .u8 0,.int .u8 0,.int .u8 0,.int .u8 0,.int .u8 0,.int .u8 0,.int .u8 0,.int .u8 0,.int .u8 0,.int .u8 0,.int .u8 0,.int .u8 0,.int .u8 0,.int .u8 0,.int .u8 0,.int .u8 0,.int .u8 0,.int .u8 0,.int .u8 0,.int .u8 0,.int .u8 0,.int .u8 0,.int .u8 0,.int .u8 0,.int .u8 0,.int .u8 0,.int .u8 0,.int .u8 0,.int .u8 0,.int .u8 0,.int .u8 0,.int .u8 0,.int .u8 0,.int .u8 0]⟩,
  ⟨.other,1,0,[]⟩,
  ⟨.func,1,8,[.nilf]⟩,
  ⟨.struct [(0,9),(1,9),(2,233)],3,48,[.str [],.str [],.nili]⟩,
  ⟨.struct [(0,9),(1,9),(2,233)],3,48,[.str [],.str [],.nili]⟩,
  ⟨.func,1,8,[.nilf]⟩,
  ⟨.func,1,8,[.nilf]⟩,
  ⟨.ptr 328,1,8,[.nilp]⟩,
  ⟨.struct [(0,9)],1,16,[.str []]⟩,
  ⟨.struct [(0,9)],1,16,[.str []]⟩,
  ⟨.struct [(0,17),(1,17),(2,17),(3,9)],4,40,[.nilp,.nilp,.nilp,.str []]⟩,
  ⟨.struct [(0,17),(1,17),(2,17),(3,9)],4,40,[.nilp,.nilp,.nilp,.str []]⟩,
  ⟨.array 0 16,0,0,[]⟩,
  ⟨.struct [(0,331)],0,0,[]⟩,
  ⟨.struct [(0,331)],0,0,[]⟩,
  ⟨.int .u8,1,1,[.int .u8 0]⟩,
  ⟨.int .u8,1,1,[.int .u8 0]⟩,
  ⟨.func,1,8,[.nilf]⟩,
  ⟨.int .i32,1,4,[.int .i32 0]⟩,
  ⟨.int .i32,1,4,[.int .i32 0]⟩,
  ⟨.struct [(0,12),(1,12),(2,300),(3,334),(4,5),(5,5),(6,335),(7,336),(8,265),(9,337),(10,338)],11,48,[.int .u64 0,.int .u64 0,.int .u32 0,.int .u8 0,.int .u8 0,.int .u8 0,.int .u8 0,.nilf,.nilp,.int .i32 0,.int .i32 0]⟩,
  ⟨.struct [(0,12),(1,12),(2,300),(3,334),(4,5),(5,5),(6,335),(7,336),(8,265),(9,337),(10,338)],11,48,[.int .u64 0,.int .u64 0,.int .u32 0,.int .u8 0,.int .u8 0,.int .u8 0,.int .u8 0,.nilf,.nilp,.int .i32 0,.int .i32 0]⟩]
set_option maxRecDepth 100000 in
theorem tbl_eq:tbl = tyTab Tryz.prog 341 341 0:=by kernel_rfl
theorem k25:eqKinds Tryz.prog 10 25 = some [.str [],.int .i64 0,.bool false,.int .i64 0,.int .i64 0]:=by kernel_rfl
theorem k27:eqKinds Tryz.prog 10 27 = some [.int .i64 0,.int .i64 0,.int .i64 0,.str [],.str [],.str [],.int .i64 0,.bool false,.int .i64 0,.int .i64 0,.str [],.int .i64 0,.bool false,.int .i64 0,.int .i64 0,.int .i64 0]:=by kernel_rfl
theorem k48:eqKinds Tryz.prog 10 48 = some [.int .i64 0,.int .i64 0,.str []]:=by kernel_rfl
theorem k104:eqKinds Tryz.prog 10 104 = some [.str [],.int .i64 0]:=by kernel_rfl
theorem k142:eqKinds Tryz.prog 10 142 = some [.int .i64 0,.str [],.int .i64 0,.int .i64 0]:=by kernel_rfl
theorem k164:eqKinds Tryz.prog 10 164 = some [.str [],.bool false,.int .i64 0]:=by kernel_rfl
def ctx (F:Nat) (l:List (Nat × EK)):Ctx:=⟨tbl,[25,27,48,104,142,164],look l,F,false⟩
def ctxL (F:Nat) (l:List (Nat × EK)):Ctx:=⟨tbl,[25,27,48,104,142,164],look l,F,true⟩
theorem eq_mem {t:Nat} (h:memN t [25,27,48,104,142,164] = true):t = 25 ∨ t = 27 ∨ t = 48 ∨ t = 104 ∨ t = 142 ∨ t = 164:=by
  simp only [memN,Bool.or_eq_true,Bool.or_false] at h
  rcases h with h | h | h | h | h | h
  · exact .inl ((Nat.eq_of_beq_eq_true h).symm)
  · exact .inr (.inl ((Nat.eq_of_beq_eq_true h).symm))
  · exact .inr (.inr (.inl ((Nat.eq_of_beq_eq_true h).symm)))
  · exact .inr (.inr (.inr (.inl ((Nat.eq_of_beq_eq_true h).symm))))
  · exact .inr (.inr (.inr (.inr (.inl ((Nat.eq_of_beq_eq_true h).symm)))))
  · exact .inr (.inr (.inr (.inr (.inr ((Nat.eq_of_beq_eq_true h).symm)))))
theorem tyOk (F:Nat) (l:List (Nat × EK)):TyOk Tryz.prog (ctx F l):=by
  refine tyOk_of (n:=341) tbl_eq fun t ht => ?_
  rcases eq_mem ht with rfl | rfl | rfl | rfl | rfl | rfl
  · exact eqOk_of (d:=10) (by decide) k25 (by kernel_rfl) (by kernel_rfl)
  · exact eqOk_of (d:=10) (by decide) k27 (by kernel_rfl) (by kernel_rfl)
  · exact eqOk_of (d:=10) (by decide) k48 (by kernel_rfl) (by kernel_rfl)
  · exact eqOk_of (d:=10) (by decide) k104 (by kernel_rfl) (by kernel_rfl)
  · exact eqOk_of (d:=10) (by decide) k142 (by kernel_rfl) (by kernel_rfl)
  · exact eqOk_of (d:=10) (by decide) k164 (by kernel_rfl) (by kernel_rfl)
theorem tyOkL (F:Nat) (l:List (Nat × EK)):TyOk Tryz.prog (ctxL F l):=by
  refine tyOk_of (n:=341) tbl_eq fun t ht => ?_
  rcases eq_mem ht with rfl | rfl | rfl | rfl | rfl | rfl
  · exact eqOk_of (d:=10) (by decide) k25 (by kernel_rfl) (by kernel_rfl)
  · exact eqOk_of (d:=10) (by decide) k27 (by kernel_rfl) (by kernel_rfl)
  · exact eqOk_of (d:=10) (by decide) k48 (by kernel_rfl) (by kernel_rfl)
  · exact eqOk_of (d:=10) (by decide) k104 (by kernel_rfl) (by kernel_rfl)
  · exact eqOk_of (d:=10) (by decide) k142 (by kernel_rfl) (by kernel_rfl)
  · exact eqOk_of (d:=10) (by decide) k164 (by kernel_rfl) (by kernel_rfl)
theorem mixed:Tryz.prog.follows .mixedOrders = true:=by kernel_rfl
end Go.PS
end

section
namespace Go.PS
open Go.Proofs
def body (f:Func):Code:=f.body.getD .skip
def lp (f:Func) (k:Nat):Code:=gt .skip (loopsOf (body f)) k
end Go.PS
end

section
namespace Go.PS
open Go.Proofs Go.RowKit
structure Laid (W0:World):Prop where
  utf8:Lib.Utf8Tabs 2 3 W0
  pow : Lib.TabIs Tryz.prog W0 "internal/strconv.uint64pow10" .u64 Lib.pow10Tab
  syn:∃ ev,W0.cell? ⟨6,0,none⟩ = some ev ∧ (ev = .nilIface ∨ ∃ te pe,ev = .iface te pe)
  rng:∃ ev,W0.cell? ⟨7,0,none⟩ = some ev ∧ (ev = .nilIface ∨ ∃ te pe,ev = .iface te pe)
section
variable {W0 w:World} {o:Own}
theorem Gl.cell (g:Gl W0 o w) {b off:Nat} {x:Value} (h:W0.cell? ⟨b,off,none⟩ = some x):w.cell? ⟨b,off,none⟩ = some x:=by
  have hb:=World.block_lt_of_cell? W0 _ h
  rw [World.cell?_of_block (w:=W0) (g.keep b hb).1]; exact h
theorem Gl.utf8 (g:Gl W0 o w) (h:Laid W0):Lib.Utf8Tabs 2 3 w :=
  ⟨fun c hc => g.cell (h.utf8.1 c hc),fun i hi => ⟨g.cell (h.utf8.2 i hi).1,g.cell (h.utf8.2 i hi).2⟩⟩
theorem Grow.of_below (g:Gl W0 o w) {w' : World} (h:Below w.heap.size w w'):Grow o w o w' :=
  ⟨h.os,h.tape,h.output,h.size,fun b hb => ⟨h.block b hb,rfl⟩,fun b hb => Nat.lt_of_lt_of_le (g.fin b hb) h.size⟩
theorem lib_of {f : FuncId} {fn : Func} {c : Code} (hf : Tryz.prog.funcs[f]? = some fn) (hb : fn.body = some c) (hn : (fn.name == "runtime.NumGoroutine") = false) {S : List PV → Tr PV}
    (h:∀ args v,(S args).val = some v → ∀ o sig w xs,Gl W0 o w → PEncL o w sig args xs → Calls Tryz.prog f xs.toArray w fun e w' => ∃ x,e = .returned x ∧ Below w.heap.size w w' ∧ (∀ o sig,PEnc o w' sig v x) ∧ ∀ k,(cmpV v k).noOwn):EKOk Tryz.prog W0 f (.pure S):=by
  refine ⟨enters_of hf hb hn,?_⟩
  intro args v hs o sig w xs hg _ hx
  refine (h args v hs o sig w xs hg hx).mono ?_
  rintro e w' ⟨x,rfl,h1,h2,h3⟩
  exact ⟨x,o,rfl,.of_below hg h1,h2 _ _,fun k => Cap.of_noOwn (h3 k)⟩
def idxB (s:List UInt8) (b:Int):Int:=Lib.indexByte s b.toNat.toUInt8
def S100:List PV → Tr PV
  | [.d (.str s),.d (.int .u8 b)] => .ok (.d (.int .i64 (idxB s b)))
  | _ => .no
theorem bodySome (f:Func) (h:f.body.isSome = true):f.body = some (body f):=by
  cases hb:f.body with
  | none => rw [hb] at h; simp at h
  | some c => simp [body,hb]
theorem ok100:EKOk Tryz.prog W0 100 (.pure S100):=by
  refine lib_of Tryz.func100 (bodySome _ (by kernel_rfl)) (by kernel_rfl) fun args v h o sig w xs hg hx => ?_
  unfold S100 at h
  split at h
  · simp only [Tr.val_ok,Option.some.injEq] at h
    subst h
    cases hx with | cons h1 t =>
    cases t with | cons h2 t =>
    cases t
    cases h1 with | d h1 =>
    cases h1 with | str _ hs =>
    cases h2 with | d h2 =>
    cases h2
    refine (Tryz.strings_IndexByte _ _ w).mono ?_
    rintro e w' ⟨rfl,rfl⟩
    exact ⟨_,rfl,.refl _ _,fun _ _ => .d (.int _ _),fun k => by unfold cmpV; dsimp only; split <;> trivial⟩
  · simp [Tr.val_no] at h
theorem two_noOwn (a b:DV) (k:Nat):(cmpV (.tup [.d a,.d b]) k).noOwn:=by
  unfold cmpV; dsimp only
  rcases k with _ | _ | k <;> simp [gt] <;> trivial
def runeC (s:List UInt8):Int:=((Lib.decodeGo ⟨s.toArray⟩).1:Nat)
def runeN (s:List UInt8):Int:=((Lib.decodeGo ⟨s.toArray⟩).2:Nat)
def S270:List PV → Tr PV
  | [.d (.str s)] => .ok (.tup [.d (.int .i32 (runeC s)),.d (.int .i64 (runeN s))])
  | _ => .no
theorem ok270 (hW:Laid W0):EKOk Tryz.prog W0 270 (.pure S270):=by
  refine lib_of Tryz.func270 (bodySome _ (by kernel_rfl)) (by kernel_rfl) fun args v h o sig w xs hg hx => ?_
  unfold S270 at h
  split at h
  · simp only [Tr.val_ok,Option.some.injEq] at h
    subst h
    cases hx with | cons h1 t =>
    cases t
    cases h1 with | d h1 =>
    cases h1 with | str _ hs =>
    refine (Tryz.utf8_DecodeRuneInString _ w (hg.utf8 hW)).mono ?_
    rintro e w' ⟨rfl,hb⟩
    exact ⟨_,rfl,hb,fun _ _ => .tup (.cons (.d (.int _ _)) (.cons (.d (.int _ _)) .nil)),fun k => two_noOwn _ _ k⟩
  · simp [Tr.val_no] at h
def atoiOk (s:List UInt8):Bool:=match Lib.atoiAll s with | .ok _ => true | _ => false
def atoiV (s:List UInt8):Int:=match Lib.atoiAll s with | .ok v => v | .range => Lib.atoiSat s | _ => 0
def S273:List PV → Tr PV
  | [.d (.str s)] => .chk (decide (s.length ≤ 281474976710656)) (.cnd (atoiOk s) (.ok (.tup [.d (.int .i64 (atoiV s)),.d .nili])) (.ok (.tup [.d (.int .i64 (atoiV s)),.d (.ifc 315)])))
  | _ => .no
theorem ok273 (hW:Laid W0):EKOk Tryz.prog W0 273 (.pure S273):=by
  refine lib_of Tryz.func273 (bodySome _ (by kernel_rfl)) (by kernel_rfl) fun args v h o sig w xs hg hx => ?_
  unfold S273 at h
  split at h
  · rename_i s
    simp only [Tr.val_ok,Tr.val_chk,Tr.val_cnd,chk_some,cnd_some,Option.some.injEq,decide_eq_true_eq] at h
    obtain ⟨hl,h⟩:=h
    cases hx with | cons h2 t =>
    cases t
    cases h2 with | d h2 =>
    cases h2 with | str _ hs =>
    cases ha:Lib.atoiAll s with
    | ok n =>
      simp only [atoiOk,atoiV,ha,true_and,Bool.true_eq_false,false_and,or_false] at h
      subst h
      refine (Tryz.strconv_Atoi_ok ⟨s.toArray⟩ (by show s.length ≤ _; omega) n ha w).mono ?_
      rintro e w' ⟨rfl,hw⟩
      refine ⟨_,rfl,?_,fun _ _ => .tup (.cons (.d (.int _ _)) (.cons (.d .nili) .nil)),fun k => two_noOwn _ _ k⟩
      rcases hw with rfl | ⟨t,rfl⟩
      · exact .refl _ _
      · exact Lib.bytesWorld_below w 5 t
    | range =>
      simp only [atoiOk,atoiV,ha,true_and,Bool.false_eq_true,false_and,false_or] at h
      subst h
      obtain ⟨ev,hv,hev⟩:=hW.rng
      refine (Tryz.strconv_Atoi_range ⟨s.toArray⟩ hl ha ev w (hg.cell hv) hev).mono ?_
      rintro e w' ⟨N,rfl,_,_,hb⟩
      exact ⟨_,rfl,hb,fun _ _ => .tup (.cons (.d (.int _ _)) (.cons (.d (.ifc _ _)) .nil)),fun k => two_noOwn _ _ k⟩
    | _ =>
      simp only [atoiOk,atoiV,ha,true_and,Bool.false_eq_true,false_and,false_or] at h
      subst h
      obtain ⟨ev,hv,hev⟩:=hW.syn
      refine (Any.strconv_Atoi_syntax Tryz.laysC172 ⟨s.toArray⟩ hl ha ev w (hg.cell hv) hev).mono ?_
      rintro e w' ⟨N,rfl,_,_,hb⟩
      exact ⟨_,rfl,hb,fun _ _ => .tup (.cons (.d (.int _ _)) (.cons (.d (.ifc _ _)) .nil)),fun k => two_noOwn _ _ k⟩
  · simp [Tr.val_no] at h
end
end Go.PS
end

section
namespace Go.PS
def chr (s:List UInt8) (n:Int):Int:=((s.getD n.toNat 0).toNat:Int)
def hasB (some s:List UInt8) (n:Int):Bool:=decide (n.toNat < s.length) && decide (0 ≤ idxB some (chr s n))
def lim:Int:=4611686018427387904
def S272:List PV → List PObj → Tr (Out × List PObj)
  | [.ptr 0 0,.d (.str l)],[.cells [.d (.str s),.d (.int .i64 n)]] =>
    .chk (decide (0 ≤ n) && decide (n < lim)) (.cnd (hasB l s n)
      (.ok (.ret (.tup [.d (.int .u8 (chr s n)),.d (.bool true)]),[.cells [.d (.str s),.d (.int .i64 (n + 1))]]))
      (.ok (.ret (.tup [.d (.int .u8 0),.d (.bool false)]),[.cells [.d (.str s),.d (.int .i64 n)]])))
  | _,_ => .no
def failN (s:List UInt8) (n:Int):Int:=if n < s.length then n else s.length
def failE (s:List UInt8) (n:Int):Int:=if n < s.length then 4 else 3
def S257:List PV → List PObj → Tr (Out × List PObj)
  | [.ptr 0 0],[.cells [.d (.str s),.d (.int .i64 n)]] =>
    .ok (.ret (.tup [.d (.agg [.int .i64 0,.int .i64 0,.str []]),.d (.int .i64 (failN s n)),.d (.int .i64 (failE s n))]),[.cells [.d (.str s),.d (.int .i64 n)]])
  | _,_ => .no
end Go.PS
end

section
namespace Go.PS
open Go.Proofs
set_option maxRecDepth 100000
theorem fn257:FnOk Tryz.prog 257 26 [.cell 2 48,.tmp 3,.tmp 4] (body Tryz.f257):=⟨Tryz.f257,Tryz.func257,bodySome _ (by kernel_rfl),by kernel_rfl,by kernel_rfl,by kernel_rfl,by kernel_rfl⟩
theorem run257 (F:Nat) (s:List UInt8) (n:Int):runE (ctx F []) noL 26 [.cell 2 48,.tmp 3,.tmp 4] (body Tryz.f257) [.ptr 0 0] [.cells [.d (.str s),.d
 (.int .i64 n)]] = Tr.val (.cnd (decide (n ≥ ↑s.length)) (.ok ((Out.ret (PV.tup [.d (DV.agg [.int .i64 (0),.int .i64 (0),.str []]),.d (.int .i64 ↑s.length),.d
 (.int .i64 (3))]),[PObj.cells [.d (.str s),.d (.int .i64 n)]]))) (.ok ((Out.ret (PV.tup [.d (DV.agg [.int .i64 (0),.int .i64 (0),.str []]),.d (.int .i64 n),
 .d (.int .i64 (4))]),[PObj.cells [.d (.str s),.d (.int .i64 n)]])))):=by kernel_rfl
theorem fn272:FnOk Tryz.prog 272 47 [.tmp 4,.tmp 5] (body Tryz.f272):=⟨Tryz.f272,Tryz.func272,bodySome _ (by kernel_rfl),by kernel_rfl,by kernel_rfl,by kernel_rfl,by kernel_rfl⟩
theorem run272 (F:Nat) (s l:List UInt8) (n:Int):runE (ctx F [(100,.pure S100)]) noL 47 [.tmp 4,.tmp 5] (body Tryz.f272) [.ptr 0 0,.d (.str l)] [.cells
 [.d (.str s),.d (.int .i64 n)]] = Tr.val (.cnd (decide (n ≥ ↑s.length)) (.ok ((Out.ret (PV.tup [.d (.int .u8 (0)),.d (.bool false)]),[PObj.cells [.d (.str s),
 .d (.int .i64 n)]]))) (.chk (decide (0 ≤ n)) (.chk (decide (n.toNat < s.length)) (.cnd (decide (idxB l ↑(s.getD n.toNat 0).toNat < 0)) (.ok ((Out.ret (PV.tup [.d
 (.int .u8 (0)),.d (.bool false)]),[PObj.cells [.d (.str s),.d (.int .i64 n)]]))) (.chk (decide (0 ≤ IntKind.i64.wrap (IntKind.i64.wrap (n + 1) - 1))) (.chk
 (decide ((IntKind.i64.wrap (IntKind.i64.wrap (n + 1) - 1)).toNat < s.length)) (.ok ((Out.ret (PV.tup [.d (.int .u8 ↑(s.getD (IntKind.i64.wrap (IntKind.i64.wrap
 (n + 1) - 1)).toNat 0).toNat),.d (.bool true)]),[PObj.cells [.d (.str s),.d (.int .i64 (IntKind.i64.wrap (n + 1)))]]))))))))):=by kernel_rfl
theorem fn282:FnOk Tryz.prog 282 47 [.tmp 2,.tmp 3] (body Tryz.f282):=⟨Tryz.f282,Tryz.func282,bodySome _ (by kernel_rfl),by kernel_rfl,by kernel_rfl,by kernel_rfl,by kernel_rfl⟩
theorem run282 (F:Nat) (s:List UInt8) (n:Int):runE (ctx F [(100,.pure S100),(272,.eff (frameT S272))]) noL 47 [.tmp 2,.tmp 3] (body Tryz.f282) [.ptr
 0 0] [.cells [.d (.str s),.d (.int .i64 n)]] = Tr.val (.chk (decide (0 ≤ n) && decide (n < lim)) (.cnd (hasB ([48,49,55]:List UInt8) s n) (.chk (decide (0 ≤
 n + 1) && decide (n + 1 < lim)) (.cnd (hasB ([48,49,50,51,52,53,54,55,56,57,97,98,99,100,101,102]:List UInt8) s (n + 1)) (.cnd (decide
 (IntKind.u8.wrap (IntKind.i64.wrap ↑(BitVec.ofInt IntKind.i64.bits (IntKind.i64.wrap (idxB ([48,49,50,51,52,53,54,55,56,57,97,98,99,100,101,102] :
 List UInt8) (chr s n) * 2 ^ min (Int.toNat 4) IntKind.i64.bits)) ||| BitVec.ofInt IntKind.i64.bits (idxB ([48,49,50,51,52,53,54,55,56,57,97,98,99,
 100,101,102]:List UInt8) (chr s (n + 1)))).toNat) = 10)) (.ok ((Out.ret (PV.tup [.d (.int .u8 (0)),.d (.bool false)]),[PObj.cells [.d (.str s),.d (.int
 .i64 (IntKind.i64.wrap (n + 1 + 1 - 1)))]]))) (.cnd (decide (IntKind.u8.wrap (IntKind.i64.wrap ↑(BitVec.ofInt IntKind.i64.bits (IntKind.i64.wrap (idxB ([48,49,
 50,51,52,53,54,55,56,57,97,98,99,100,101,102]:List UInt8) (chr s n) * 2 ^ min (Int.toNat 4) IntKind.i64.bits)) ||| BitVec.ofInt IntKind.i64.bits
 (idxB ([48,49,50,51,52,53,54,55,56,57,97,98,99,100,101,102]:List UInt8) (chr s (n + 1)))).toNat) ≥ 32)) (.cnd (!decide (IntKind.u8.wrap
 (IntKind.i64.wrap ↑(BitVec.ofInt IntKind.i64.bits (IntKind.i64.wrap (idxB ([48,49,50,51,52,53,54,55,56,57,97,98,99,100,101,102]:List UInt8) (chr
 s n) * 2 ^ min (Int.toNat 4) IntKind.i64.bits)) ||| BitVec.ofInt IntKind.i64.bits (idxB ([48,49,50,51,52,53,54,55,56,57,97,98,99,100,101,102] :
 List UInt8) (chr s (n + 1)))).toNat) = 127)) (.ok ((Out.ret (PV.tup [.d (.int .u8 (0)),.d (.bool false)]),[PObj.cells [.d (.str s),.d (.int .i64
 (IntKind.i64.wrap (n + 1 + 1 - 1)))]]))) (.ok ((Out.ret (PV.tup [.d (.int .u8 (IntKind.u8.wrap (IntKind.i64.wrap ↑(BitVec.ofInt IntKind.i64.bits
 (IntKind.i64.wrap (idxB ([48,49,50,51,52,53,54,55,56,57,97,98,99,100,101,102]:List UInt8) (chr s n) * 2 ^ min (Int.toNat 4) IntKind.i64.bits))
 ||| BitVec.ofInt IntKind.i64.bits (idxB ([48,49,50,51,52,53,54,55,56,57,97,98,99,100,101,102]:List UInt8) (chr s (n + 1)))).toNat))),.d (.bool
 true)]),[PObj.cells [.d (.str s),.d (.int .i64 (n + 1 + 1))]])))) (.ok ((Out.ret (PV.tup [.d (.int .u8 (IntKind.u8.wrap (IntKind.i64.wrap ↑(BitVec.ofInt
 IntKind.i64.bits (IntKind.i64.wrap (idxB ([48,49,50,51,52,53,54,55,56,57,97,98,99,100,101,102]:List UInt8) (chr s n) * 2 ^ min (Int.toNat 4)
 IntKind.i64.bits)) ||| BitVec.ofInt IntKind.i64.bits (idxB ([48,49,50,51,52,53,54,55,56,57,97,98,99,100,101,102]:List UInt8) (chr s (n +
 1)))).toNat))),.d (.bool true)]),[PObj.cells [.d (.str s),.d (.int .i64 (n + 1 + 1))]]))))) (.ok ((Out.ret (PV.tup [.d (.int .u8 (0)),.d (.bool false)]),
 [PObj.cells [.d (.str s),.d (.int .i64 (n + 1))]]))))) (.ok ((Out.ret (PV.tup [.d (.int .u8 (0)),.d (.bool false)]),[PObj.cells [.d (.str s),.d (.int .i64
 n)]]))))):=by kernel_rfl
end Go.PS
end

section
namespace Go.PS
open Go.Proofs
theorem wrap64 {x:Int} (h1:-9223372036854775808 ≤ x) (h2:x ≤ 9223372036854775807):IntKind.i64.wrap x = x:=IntWalk.i64_in _ (by omega)
theorem cnd_t {R:Type} {b:Bool} {x y:Option R} (h:b = true):PS.cnd b x y = x:=by subst h; rfl
theorem cnd_f {R:Type} {b:Bool} {x y:Option R} (h:b = false):PS.cnd b x y = y:=by subst h; rfl
theorem chk_t {R:Type} {b:Bool} {x:Option R} (h:b = true):PS.chk b x = x:=by subst h; rfl
@[simp] theorem cnd_tt {R:Type} {x y:Option R}:PS.cnd true x y = x:=rfl
@[simp] theorem cnd_ff {R:Type} {x y:Option R}:PS.cnd false x y = y:=rfl
@[simp] theorem chk_tt {R:Type} {x:Option R}:PS.chk true x = x:=rfl
@[simp] theorem chk_ff {R:Type} {x:Option R}:PS.chk false x = none:=rfl
theorem cnd_dec {R:Type} {p:Prop} [Decidable p] {x y:Option R}:PS.cnd (decide p) x y = if p then x else y:=by by_cases h:p <;> simp [h]
theorem chr_nonneg (s:List UInt8) (n:Int):0 ≤ chr s n:=by unfold chr; omega
theorem chr_lt (s:List UInt8) (n:Int):chr s n < 256:=by
  unfold chr
  have:=(s.getD n.toNat 0).toNat_lt
  omega
theorem idxB_byte (l:List UInt8) (b:UInt8):idxB l (b.toNat:Int) = Lib.indexByte l b:=by
  unfold idxB
  congr 1
  simp
theorem byte_all {p:UInt8 → Prop} (h:∀ n:Fin 256,p (UInt8.ofNat n.val)) (b:UInt8):p b:=by
  have:=h ⟨b.toNat,b.toNat_lt⟩
  simpa using this
theorem ok257 (W0:World):EKOk Tryz.prog W0 257 (.eff (frameT S257)):=by
  refine eff_of (tyOk 0 []) (look_ok all_nil) mixed fn257 (lpsOk_no _ _) fun args H r h => ?_
  unfold S257 at h
  split at h
  · rename_i s n
    refine (run257 0 s n).trans ?_
    rw [← h]
    by_cases hn:n < s.length
    · have:¬ (n ≥ (s.length:Int)):=by omega
      simp [Tr.val_ok,Tr.val_cnd,failN,failE,hn,this]
    · have:n ≥ (s.length:Int):=by omega
      simp [Tr.val_ok,Tr.val_cnd,failN,failE,hn,this]
  · simp [Tr.val_no] at h
end Go.PS
end

section
namespace Go.PS
open Go.Proofs
theorem lim_ok {n m:Int} (h0:0 ≤ n) (h1:m < 4611686018427387904):(decide (0 ≤ n) && decide (m < lim)) = true:=by
  rw [Bool.and_eq_true,decide_eq_true_eq,decide_eq_true_eq]
  exact ⟨h0,h1⟩
theorem hasB_iff (l s:List UInt8) (n:Int):hasB l s n = true ↔ n.toNat < s.length ∧ 0 ≤ idxB l (chr s n):=by
  unfold hasB; simp
theorem ok272 (W0:World):EKOk Tryz.prog W0 272 (.eff (frameT S272)):=by
  refine eff_of (tyOk 0 [(100,.pure S100)]) (look_ok (all_cons ok100 all_nil)) mixed fn272 (lpsOk_no _ _) fun args H r h => ?_
  unfold S272 at h
  split at h
  · rename_i l s n
    refine (run272 0 s l n).trans ?_
    rw [← h]
    simp only [Tr.val_chk,chk_some,Bool.and_eq_true,decide_eq_true_eq] at h
    obtain ⟨⟨h0,h1⟩,_⟩:=h
    unfold lim at h1
    have w1:IntKind.i64.wrap (n + 1) = n + 1:=wrap64 (by omega) (by omega)
    have w2:IntKind.i64.wrap (n + 1 - 1) = n:=(wrap64 (x:=n + 1 - 1) (by omega) (by omega)).trans (by omega)
    simp only [Tr.val_ok,Tr.val_cnd,Tr.val_chk,w1,w2]
    have hc:((s.getD n.toNat 0).toNat:Int) = chr s n:=rfl
    rw [hc]
    rw [chk_t (lim_ok h0 h1)]
    by_cases hn:n < s.length
    · have h2:¬ (n ≥ (s.length:Int)):=by omega
      have h3:n.toNat < s.length:=by omega
      by_cases hi:0 ≤ idxB l (chr s n)
      · have h4:¬ (idxB l (chr s n) < 0):=by omega
        rw [cnd_t ((hasB_iff l s n).2 ⟨h3,hi⟩)]
        simp [h2,h3,h0,h4]
      · have h4:idxB l (chr s n) < 0:=by omega
        rw [cnd_f (b:=hasB l s n) (by cases hb:hasB l s n with | false => rfl | true => exact absurd ((hasB_iff l s n).1 hb).2 hi)]
        simp [h2,h3,h0,h4]
    · have h2:n ≥ (s.length:Int):=by omega
      rw [cnd_f (b:=hasB l s n) (by cases hb:hasB l s n with | false => rfl | true => have:=((hasB_iff l s n).1 hb).1; omega)]
      simp [h2]
  · simp [Tr.val_no] at h
def low (b:Int):Int:=if 48 ≤ b ∧ b ≤ 57 then b - 48 else if 97 ≤ b ∧ b ≤ 102 then b - 87 else -1
def hexDigits:List UInt8:=[48,49,50,51,52,53,54,55,56,57,97,98,99,100,101,102]
set_option maxRecDepth 100000 in
theorem idx_hex (b:UInt8):Lib.indexByte hexDigits b = low b.toNat :=
  byte_all (p:=fun b => Lib.indexByte hexDigits b = low b.toNat) (by decide) b
set_option maxRecDepth 100000 in
theorem idx_017 (b:UInt8):Lib.indexByte [48,49,55] b = if b.toNat = 48 then 0 else if b.toNat = 49 then 1 else if b.toNat = 55 then 2 else -1 :=
  byte_all (p:=fun b => Lib.indexByte [48,49,55] b = if b.toNat = 48 then 0 else if b.toNat = 49 then 1 else if b.toNat = 55 then 2 else -1) (by decide) b
set_option maxRecDepth 100000 in
theorem idx_esc (b:UInt8):Lib.indexByte [34,92,110,120] b = if b.toNat = 34 then 0 else if b.toNat = 92 then 1 else if b.toNat = 110 then 2 else if b.toNat = 120 then 3 else -1 :=
  byte_all (p:=fun b => Lib.indexByte [34,92,110,120] b = if b.toNat = 34 then 0 else if b.toNat = 92 then 1 else if b.toNat = 110 then 2 else if b.toNat = 120 then 3 else -1) (by decide) b
theorem idx_chr (l s:List UInt8) (n:Int):idxB l (chr s n) = Lib.indexByte l (s.getD n.toNat 0):=idxB_byte l _
def escBad (b:Int):Bool:=decide (b = 10) || (decide (32 ≤ b) && decide (b ≠ 127))
def high (b:Int):Bool:=decide (b = 48) || decide (b = 49) || decide (b = 55)
def hex1 (s:List UInt8) (n:Int):Bool:=decide (n < s.length) && high (chr s n)
def hex2 (s:List UInt8) (n:Int):Bool:=decide (n + 1 < s.length) && decide (0 ≤ low (chr s (n + 1)))
def hexB (s:List UInt8) (n:Int):Int:=16 * low (chr s n) + low (chr s (n + 1))
def hexV (s:List UInt8) (n:Int):Int:=if hex1 s n then (if hex2 s n then (if escBad (hexB s n) then -1 else hexB s n) else -1) else -1
def hexTo (s:List UInt8) (n:Int):Int:=if hex1 s n then (if hex2 s n then (if escBad (hexB s n) then n + 1 else n + 2) else n + 1) else n
def S282:List PV → List PObj → Tr (Out × List PObj)
  | [.ptr 0 0],[.cells [.d (.str s),.d (.int .i64 n)]] =>
    .chk (decide (0 ≤ n) && decide (n + 2 < lim)) (.ok (.ret (.tup [.d (.int .u8 (if hexV s n < 0 then 0 else hexV s n)),.d (.bool (decide (0 ≤ hexV s n)))]),[.cells [.d (.str s),.d (.int .i64 (hexTo s n))]]))
  | _,_ => .no
theorem hex1_iff (s:List UInt8) (n:Int) (h0:0 ≤ n):hasB [48,49,55] s n = hex1 s n:=by
  rw [Bool.eq_iff_iff,hasB_iff,idx_chr,idx_017]
  unfold hex1 high
  have hc:chr s n = ((s.getD n.toNat 0).toNat:Int):=rfl
  rw [hc]
  simp only [Bool.and_eq_true,Bool.or_eq_true,decide_eq_true_eq]
  generalize (s.getD n.toNat 0).toNat = b
  repeat' split
  all_goals omega
theorem hex2_iff (s:List UInt8) (n:Int) (h0:0 ≤ n):hasB hexDigits s (n + 1) = hex2 s n:=by
  rw [Bool.eq_iff_iff,hasB_iff,idx_chr,idx_hex]
  unfold hex2
  have hc:chr s (n + 1) = ((s.getD (n + 1).toNat 0).toNat:Int):=rfl
  rw [hc]
  simp only [Bool.and_eq_true,decide_eq_true_eq]
  constructor
  · rintro ⟨h1,h2⟩; exact ⟨by omega,h2⟩
  · rintro ⟨h1,h2⟩; exact ⟨by omega,h2⟩
theorem orB (h l:Int) (h1:h = 0 ∨ h = 1 ∨ h = 7) (h2:0 ≤ l) (h3:l < 16):IntKind.u8.wrap (IntKind.i64.wrap ↑(BitVec.ofInt IntKind.i64.bits (IntKind.i64.wrap (h * 2 ^ min (Int.toNat 4) IntKind.i64.bits)) ||| BitVec.ofInt IntKind.i64.bits l).toNat) = 16 * h + l:=by
  obtain ⟨m,rfl⟩:=Int.eq_ofNat_of_zero_le h2
  have key:∀ m:Fin 16,∀ h:Int,(h = 0 ∨ h = 1 ∨ h = 7) → IntKind.u8.wrap (IntKind.i64.wrap ↑(BitVec.ofInt IntKind.i64.bits (IntKind.i64.wrap (h * 2 ^ min (Int.toNat 4) IntKind.i64.bits)) ||| BitVec.ofInt IntKind.i64.bits (m.val:Int)).toNat) = 16 * h + (m.val:Int):=by
    intro m h hh
    rcases hh with rfl | rfl | rfl <;> revert m <;> decide
  exact key ⟨m,by omega⟩ h h1
theorem ok282 (W0:World):EKOk Tryz.prog W0 282 (.eff (frameT S282)):=by
  refine eff_of (tyOk 0 [(100,.pure S100),(272,.eff (frameT S272))]) (look_ok (all_cons ok100 (all_cons (ok272 W0) all_nil))) mixed fn282 (lpsOk_no _ _) fun args H r h => ?_
  unfold S282 at h
  split at h
  · rename_i s n
    refine (run282 0 s n).trans ?_
    rw [← h]
    simp only [Tr.val_chk,chk_some,Bool.and_eq_true,decide_eq_true_eq] at h
    obtain ⟨⟨h0,h1⟩,_⟩:=h
    unfold lim at h1
    simp only [Tr.val_ok,Tr.val_cnd,Tr.val_chk]
    rw [show ([48,49,50,51,52,53,54,55,56,57,97,98,99,100,101,102]:List UInt8) = hexDigits from rfl,hex1_iff s n h0,hex2_iff s n h0]
    rw [chk_t (lim_ok h0 (m:=n) (by omega)),chk_t (lim_ok h0 (m:=n + 2) h1)]
    by_cases g1:hex1 s n = true
    · by_cases g2:hex2 s n = true
      · have i1:idxB hexDigits (chr s n) = low (chr s n):=by rw [idx_chr,idx_hex]; rfl
        have i2:idxB hexDigits (chr s (n + 1)) = low (chr s (n + 1)):=by rw [idx_chr,idx_hex]; rfl
        have hb:IntKind.u8.wrap (IntKind.i64.wrap ↑(BitVec.ofInt IntKind.i64.bits (IntKind.i64.wrap (idxB hexDigits (chr s n) * 2 ^ min (Int.toNat 4) IntKind.i64.bits)) ||| BitVec.ofInt IntKind.i64.bits (idxB hexDigits (chr s (n + 1)))).toNat) = hexB s n:=by
          rw [i1,i2]
          refine orB _ _ ?_ ?_ ?_
          · have:=(Bool.and_eq_true_iff.1 g1).2
            unfold high at this
            simp only [Bool.or_eq_true,decide_eq_true_eq] at this
            unfold low
            repeat' split
            all_goals omega
          · simpa using (Bool.and_eq_true_iff.1 g2).2
          · unfold low
            repeat' split
            all_goals omega
        rw [hb]
        have hw:IntKind.i64.wrap (n + 1 + 1 - 1) = n + 1:=(wrap64 (x:=n + 1 + 1 - 1) (by omega) (by omega)).trans (by omega)
        rw [hw]
        have hn:0 ≤ hexB s n:=by
          have:=(Bool.and_eq_true_iff.1 g2).2
          simp only [decide_eq_true_eq] at this
          have h3:=(Bool.and_eq_true_iff.1 g1).2
          unfold high at h3
          simp only [Bool.or_eq_true,decide_eq_true_eq] at h3
          unfold hexB
          have:0 ≤ low (chr s n):=by
            unfold low
            repeat' split
            all_goals omega
          omega
        rw [cnd_t g1,cnd_t g2,chk_t (lim_ok (n:=n + 1) (m:=n + 1) (by omega) (by omega))]
        by_cases b10:hexB s n = 10
        · have hbad:escBad (hexB s n) = true:=by simp [escBad,b10]
          simp only [hexV,hexTo,g1,g2,hbad,if_true,if_false,Bool.false_eq_true]
          simp [b10]
        · by_cases b32:32 ≤ hexB s n
          · by_cases b127:hexB s n = 127
            · have hbad:escBad (hexB s n) = false:=by simp [escBad,b127]
              have e2:n + 2 = n + 1 + 1:=by omega
              simp only [hexV,hexTo,g1,g2,hbad,if_true,if_false,Bool.false_eq_true]
              simp [b127,e2]
            · have hbad:escBad (hexB s n) = true:=by simp [escBad,b10,b32,b127]
              have:hexB s n ≥ 32:=b32
              simp only [hexV,hexTo,g1,g2,hbad,if_true,if_false,Bool.false_eq_true]
              simp [b10,this,b127]
          · have hbad:escBad (hexB s n) = false:=by simp [escBad,b10,b32]
            have h3:¬ (hexB s n ≥ 32):=b32
            have h4:¬ (hexB s n < 0):=by omega
            have e2:n + 2 = n + 1 + 1:=by omega
            simp only [hexV,hexTo,g1,g2,hbad,if_true,if_false,Bool.false_eq_true]
            simp [b10,h3,h4,hn,e2]
      · simp only [Bool.not_eq_true] at g2
        rw [cnd_t g1,cnd_f g2,chk_t (lim_ok (n:=n + 1) (m:=n + 1) (by omega) (by omega))]
        simp [hexV,hexTo,g1,g2]
    · simp only [Bool.not_eq_true] at g1
      rw [cnd_f g1]
      simp [hexV,hexTo,g1]
  · simp [Tr.val_no] at h
end Go.PS
end

section
namespace Go.PS
open Go.Proofs
def escV (s:List UInt8) (n:Int):Int :=
  if n < s.length then (if chr s n = 34 then 34 else if chr s n = 92 then 92 else if chr s n = 110 then 10 else if chr s n = 120 then hexV s (n + 1) else -1) else -1
def escTo (s:List UInt8) (n:Int):Int :=
  if n < s.length then (if chr s n = 34 then n + 1 else if chr s n = 92 then n + 1 else if chr s n = 110 then n + 1 else if chr s n = 120 then hexTo s (n + 1) else n) else n
def S271:List PV → List PObj → Tr (Out × List PObj)
  | [.ptr 0 0],[.cells [.d (.str s),.d (.int .i64 n)]] =>
    .chk (decide (0 ≤ n) && decide (n + 3 < lim)) (.ok (.ret (.tup [.d (.int .u8 (if escV s n < 0 then 0 else escV s n)),.d (.bool (decide (0 ≤ escV s n)))]),[.cells [.d (.str s),.d (.int .i64 (escTo s n))]]))
  | _,_ => .no
def isDigit (b:Int):Bool:=decide (48 ≤ b) && decide (b ≤ 57)
end Go.PS
end

section
namespace Go.PS
open Go.Proofs
set_option maxRecDepth 100000
theorem fn271:FnOk Tryz.prog 271 25 [.tmp 2,.tmp 3] (body Tryz.f271):=⟨Tryz.f271,Tryz.func271,bodySome _ (by kernel_rfl),by kernel_rfl,by kernel_rfl,by kernel_rfl,by kernel_rfl⟩
theorem run271 (F:Nat) (s:List UInt8) (n:Int):runE (ctx F [(272,.eff (frameT S272)),(282,.eff (frameT S282))]) noL 25 [.tmp 2,.tmp 3] (body
 Tryz.f271) [.ptr 0 0] [.cells [.d (.str s),.d (.int .i64 n)]] = Tr.val (.chk (decide (0 ≤ n) && decide (n < lim)) (.cnd (hasB ([34,92,110,120]:List UInt8)
 s n) (.cnd (decide (chr s n = 110)) (.ok ((Out.ret (PV.tup [.d (.int .u8 (10)),.d (.bool true)]),[PObj.cells [.d (.str s),.d (.int .i64 (n + 1))]]))) (.cnd
 (decide (chr s n = 120)) (.chk (decide (0 ≤ n + 1) && decide (n + 1 + 2 < lim)) (.ok ((Out.ret (PV.tup [.d (.int .u8 (if hexV s (n + 1) < 0 then 0 else hexV s (n
 + 1))),.d (.bool (decide (0 ≤ hexV s (n + 1))))]),[PObj.cells [.d (.str s),.d (.int .i64 (hexTo s (n + 1)))]])))) (.ok ((Out.ret (PV.tup [.d (.int .u8 (chr s
 n)),.d (.bool true)]),[PObj.cells [.d (.str s),.d (.int .i64 (n + 1))]]))))) (.ok ((Out.ret (PV.tup [.d (.int .u8 (0)),.d (.bool false)]),[PObj.cells [.d
 (.str s),.d (.int .i64 n)]]))))):=by kernel_rfl
end Go.PS
end

section
namespace Go.PS
open Go.Proofs
theorem chr_def (s:List UInt8) (m:Int):((s.getD m.toNat 0).toNat:Int) = chr s m:=rfl
theorem esc_iff (s:List UInt8) (n:Int) (h0:0 ≤ n):hasB [34,92,110,120] s n = (decide (n < s.length) && (decide (chr s n = 34) || decide (chr s n = 92) || decide (chr s n = 110) || decide (chr s n = 120))):=by
  rw [Bool.eq_iff_iff,hasB_iff,idx_chr,idx_esc]
  have hc:chr s n = ((s.getD n.toNat 0).toNat:Int):=rfl
  rw [hc]
  simp only [Bool.and_eq_true,Bool.or_eq_true,decide_eq_true_eq]
  generalize (s.getD n.toNat 0).toNat = b
  repeat' split
  all_goals omega
theorem ok271 (W0:World):EKOk Tryz.prog W0 271 (.eff (frameT S271)):=by
  refine eff_of (tyOk 0 [(272,.eff (frameT S272)),(282,.eff (frameT S282))]) (look_ok (all_cons (ok272 W0) (all_cons (ok282 W0) all_nil))) mixed fn271 (lpsOk_no _ _) fun args H r h => ?_
  unfold S271 at h
  split at h
  · rename_i s n
    refine (run271 0 s n).trans ?_
    rw [← h]
    simp only [Tr.val_chk,chk_some,Bool.and_eq_true,decide_eq_true_eq] at h
    obtain ⟨⟨h0,h1⟩,_⟩:=h
    unfold lim at h1
    have hnn:=chr_nonneg s n
    simp only [Tr.val_ok,Tr.val_cnd,Tr.val_chk]
    rw [esc_iff s n h0,chk_t (lim_ok h0 (m:=n) (by omega)),chk_t (lim_ok h0 (m:=n + 3) h1),chk_t (lim_ok (n:=n + 1) (m:=n + 1 + 2) (by omega) (by omega))]
    by_cases hn:n < s.length
    · by_cases c1:chr s n = 34
      · simp [escV,escTo,hn,c1]
      · by_cases c2:chr s n = 92
        · simp [escV,escTo,hn,c2]
        · by_cases c3:chr s n = 110
          · simp [escV,escTo,hn,c3]
          · by_cases c4:chr s n = 120
            · simp [escV,escTo,hn,c4]
            · simp [escV,escTo,hn,c1,c2,c3,c4]
    · simp [escV,escTo,hn]
  · simp [Tr.val_no] at h
end Go.PS
end

section
namespace Go.PS
open Go.Proofs
def wGo (s:List UInt8) (a n:Int):Nat → Int → Int → Bool × Int
  | 0,_,c => (true,c)
  | m + 1,i,c => if i < n then (if a + i < s.length ∧ chr s (a + i) / 64 = 2 then wGo s a n m (i + 1) (64 * c + chr s (a + i) % 64) else (false,c)) else (true,c)
def wAll (s:List UInt8) (a n i c:Int):Bool × Int:=wGo s a n ((n - i).toNat + 1) i c
def T243 (st:St):Tr (Ex × St) :=
  bif shape 100 [0,1,4,6,7,8,9] st.slots then
    match gt .undef st.slots 0,gt .undef st.slots 1,gt .undef st.slots 4,gt .undef st.slots 6,gt .undef st.slots 7,gt .undef st.slots 8,gt .undef st.slots 9,st.heap with
    | .d (.str s),.d (.int .i64 a),.d (.int .i64 r),.d (.int .i64 n),.d (.int .i64 c),.d (.int .i64 l),.d (.int .i64 i),[] =>
      .chk (decide (0 ≤ a) && decide (a < lim) && decide (1 ≤ i) && decide (i ≤ n) && decide (n ≤ 4) && decide (0 ≤ c) && decide (c < 64 ^ i.toNat)) (.cnd (wAll s a n i c).1
        (.ok (.exit 1,⟨slots 100 [(0,.d (.str s)),(1,.d (.int .i64 a)),(4,.d (.int .i64 r)),(6,.d (.int .i64 n)),(7,.d (.int .i64 (wAll s a n i c).2)),(8,.d (.int .i64 l))],[]⟩))
        (.ok (.ret,⟨slots 100 [(0,.d (.str s)),(1,.d (.int .i64 a)),(4,.d (.int .i64 0)),(6,.d (.int .i64 n)),(7,.d (.int .i64 (wAll s a n i c).2)),(8,.d (.int .i64 l))],[]⟩)))
    | _,_,_,_,_,_,_,_ => .no
  else .no
def L243:Lps:=fun i => bif Nat.beq i 15 then some (allBut 100 [0,1,4,6,7,8,9],allBut 100 [0,1,4,6,7,8],T243) else none
end Go.PS
end

section
namespace Go.PS
open Go.Proofs
set_option maxRecDepth 100000
theorem round243_0 (F:Nat) {R:Type} (s:List UInt8) (a r n c l i:Int) (K:Ex → St → Option R) (G:St → Option R):roundK (pcodeK (ctx F []) L243 (lp
 Tryz.f243 0)) 0 (allBut 100 [0,1,4,6,7,8,9] ++ temps (lp Tryz.f243 0)) (allBut 100 [0,1,4,6,7,8]) ⟨slots 100 [(0,.d (.str s)),(1,.d (.int .i64 a)),
 (4,.d (.int .i64 r)),(6,.d (.int .i64 n)),(7,.d (.int .i64 c)),(8,.d (.int .i64 l)),(9,.d (.int .i64 i))],[]⟩ K G = Tr.run (.cnd (decide (i < n)) (.cnd
 (decide (IntKind.i64.wrap (a + i) ≥ (↑s.length:Int))) (.ok (.inl (Ex.ret,⟨slots 100 [(0,.d (.str s)),(1,.d (.int .i64 a)),(4,.d (.int .i64 (0))),(6,.d
 (.int .i64 n)),(7,.d (.int .i64 c)),(8,.d (.int .i64 l))],[]⟩))) (.chk (decide (0 ≤ IntKind.i64.wrap (a + i))) (.chk (decide ((IntKind.i64.wrap (a +
 i)).toNat < s.length)) (.cnd (!decide (IntKind.i64.wrap ((IntKind.i64.wrap (↑(s.getD (IntKind.i64.wrap (a + i)).toNat 0).toNat:Int)).tdiv 64) = 2)) (.ok (.inl
 (Ex.ret,⟨slots 100 [(0,.d (.str s)),(1,.d (.int .i64 a)),(4,.d (.int .i64 (0))),(6,.d (.int .i64 n)),(7,.d (.int .i64 c)),(8,.d (.int .i64 l))],
 []⟩))) (.chk (decide (0 ≤ IntKind.i64.wrap (a + i))) (.chk (decide ((IntKind.i64.wrap (a + i)).toNat < s.length)) (.ok (.inr ⟨slots 100 [(0,.d (.str s)),(1,.d
 (.int .i64 a)),(4,.d (.int .i64 r)),(6,.d (.int .i64 n)),(7,.d (.int .i64 (IntKind.i64.wrap (IntKind.i64.wrap (64 * c) + (IntKind.i64.wrap (↑(s.getD
 (IntKind.i64.wrap (a + i)).toNat 0).toNat:Int)).tmod 64)))),(8,.d (.int .i64 l)),(9,.d (.int .i64 (IntKind.i64.wrap (i + 1))))],[]⟩)))))))) (.ok (.inl
 (Ex.exit 1,⟨slots 100 [(0,.d (.str s)),(1,.d (.int .i64 a)),(4,.d (.int .i64 r)),(6,.d (.int .i64 n)),(7,.d (.int .i64 c)),(8,.d (.int .i64 l))],
 []⟩)))) (rnd K G):=by kernel_rfl
theorem fn243:FnOk Tryz.prog 243 100 [.tmp 4] (body Tryz.f243):=⟨Tryz.f243,Tryz.func243,bodySome _ (by kernel_rfl),by kernel_rfl,by kernel_rfl,by kernel_rfl,by kernel_rfl⟩
theorem run243 (F:Nat) (s:List UInt8) (a:Int):runP (ctx F []) L243 100 [.tmp 4] (body Tryz.f243) [.d (.str s),.d (.int .i64 a)] = Tr.val (.cnd (decide
 (a < 0)) (.ok (PV.d (.int .i64 (0)))) (.cnd (decide (a ≥ (↑s.length:Int))) (.ok (PV.d (.int .i64 (0)))) (.chk (decide (0 ≤ a)) (.chk (decide (a.toNat <
 s.length)) (.cnd (decide (IntKind.i64.wrap (↑(s.getD a.toNat 0).toNat:Int) < 128)) (.ok (PV.d (.int .i64 (1)))) (.cnd (decide (IntKind.i64.wrap (↑(s.getD
 a.toNat 0).toNat:Int) ≥ 192)) (.cnd (decide (IntKind.i64.wrap (↑(s.getD a.toNat 0).toNat:Int) < 224)) (.chk (decide (0 ≤ a) && decide (a < lim) && decide (1
 ≤ 1) && decide (1 ≤ 2) && decide (2 ≤ 4) && decide (0 ≤ IntKind.i64.wrap (IntKind.i64.wrap (↑(s.getD a.toNat 0).toNat:Int) - 192)) && decide (IntKind.i64.wrap
 (IntKind.i64.wrap (↑(s.getD a.toNat 0).toNat:Int) - 192) < 64 ^ Int.toNat 1)) (.cnd ((wAll s a 2 1 (IntKind.i64.wrap (IntKind.i64.wrap (↑(s.getD a.toNat
 0).toNat:Int) - 192))).fst) (.cnd (decide ((wAll s a 2 1 (IntKind.i64.wrap (IntKind.i64.wrap (↑(s.getD a.toNat 0).toNat:Int) - 192))).snd < 128)) (.ok (PV.d
 (.int .i64 (0)))) (.cnd (decide ((wAll s a 2 1 (IntKind.i64.wrap (IntKind.i64.wrap (↑(s.getD a.toNat 0).toNat:Int) - 192))).snd ≥ 55296)) (.cnd (decide ((wAll
 s a 2 1 (IntKind.i64.wrap (IntKind.i64.wrap (↑(s.getD a.toNat 0).toNat:Int) - 192))).snd < 57344)) (.ok (PV.d (.int .i64 (0)))) (.cnd (decide ((wAll s a 2 1
 (IntKind.i64.wrap (IntKind.i64.wrap (↑(s.getD a.toNat 0).toNat:Int) - 192))).snd > 1114111)) (.ok (PV.d (.int .i64 (0)))) (.ok (PV.d (.int .i64 (2)))))) (.cnd
 (decide ((wAll s a 2 1 (IntKind.i64.wrap (IntKind.i64.wrap (↑(s.getD a.toNat 0).toNat:Int) - 192))).snd > 1114111)) (.ok (PV.d (.int .i64 (0)))) (.ok (PV.d
 (.int .i64 (2))))))) (.ok (PV.d (.int .i64 (0)))))) (.cnd (decide (IntKind.i64.wrap (↑(s.getD a.toNat 0).toNat:Int) ≥ 224)) (.cnd (decide (IntKind.i64.wrap
 (↑(s.getD a.toNat 0).toNat:Int) < 240)) (.chk (decide (0 ≤ a) && decide (a < lim) && decide (1 ≤ 1) && decide (1 ≤ 3) && decide (3 ≤ 4) && decide (0 ≤
 IntKind.i64.wrap (IntKind.i64.wrap (↑(s.getD a.toNat 0).toNat:Int) - 224)) && decide (IntKind.i64.wrap (IntKind.i64.wrap (↑(s.getD a.toNat 0).toNat:Int) -
 224) < 64 ^ Int.toNat 1)) (.cnd ((wAll s a 3 1 (IntKind.i64.wrap (IntKind.i64.wrap (↑(s.getD a.toNat 0).toNat:Int) - 224))).fst) (.cnd (decide ((wAll s a 3 1
 (IntKind.i64.wrap (IntKind.i64.wrap (↑(s.getD a.toNat 0).toNat:Int) - 224))).snd < 2048)) (.ok (PV.d (.int .i64 (0)))) (.cnd (decide ((wAll s a 3 1
 (IntKind.i64.wrap (IntKind.i64.wrap (↑(s.getD a.toNat 0).toNat:Int) - 224))).snd ≥ 55296)) (.cnd (decide ((wAll s a 3 1 (IntKind.i64.wrap (IntKind.i64.wrap
 (↑(s.getD a.toNat 0).toNat:Int) - 224))).snd < 57344)) (.ok (PV.d (.int .i64 (0)))) (.cnd (decide ((wAll s a 3 1 (IntKind.i64.wrap (IntKind.i64.wrap (↑(s.getD
 a.toNat 0).toNat:Int) - 224))).snd > 1114111)) (.ok (PV.d (.int .i64 (0)))) (.ok (PV.d (.int .i64 (3)))))) (.cnd (decide ((wAll s a 3 1 (IntKind.i64.wrap
 (IntKind.i64.wrap (↑(s.getD a.toNat 0).toNat:Int) - 224))).snd > 1114111)) (.ok (PV.d (.int .i64 (0)))) (.ok (PV.d (.int .i64 (3))))))) (.ok (PV.d (.int .i64
 (0)))))) (.cnd (decide (IntKind.i64.wrap (↑(s.getD a.toNat 0).toNat:Int) ≥ 240)) (.cnd (decide (IntKind.i64.wrap (↑(s.getD a.toNat 0).toNat:Int) < 248))
 (.chk (decide (0 ≤ a) && decide (a < lim) && decide (1 ≤ 1) && decide (1 ≤ 4) && decide (4 ≤ 4) && decide (0 ≤ IntKind.i64.wrap (IntKind.i64.wrap (↑(s.getD
 a.toNat 0).toNat:Int) - 240)) && decide (IntKind.i64.wrap (IntKind.i64.wrap (↑(s.getD a.toNat 0).toNat:Int) - 240) < 64 ^ Int.toNat 1)) (.cnd ((wAll s a 4 1
 (IntKind.i64.wrap (IntKind.i64.wrap (↑(s.getD a.toNat 0).toNat:Int) - 240))).fst) (.cnd (decide ((wAll s a 4 1 (IntKind.i64.wrap (IntKind.i64.wrap (↑(s.getD
 a.toNat 0).toNat:Int) - 240))).snd < 65536)) (.ok (PV.d (.int .i64 (0)))) (.cnd (decide ((wAll s a 4 1 (IntKind.i64.wrap (IntKind.i64.wrap (↑(s.getD a.toNat
 0).toNat:Int) - 240))).snd ≥ 55296)) (.cnd (decide ((wAll s a 4 1 (IntKind.i64.wrap (IntKind.i64.wrap (↑(s.getD a.toNat 0).toNat:Int) - 240))).snd < 57344))
 (.ok (PV.d (.int .i64 (0)))) (.cnd (decide ((wAll s a 4 1 (IntKind.i64.wrap (IntKind.i64.wrap (↑(s.getD a.toNat 0).toNat:Int) - 240))).snd > 1114111)) (.ok
 (PV.d (.int .i64 (0)))) (.ok (PV.d (.int .i64 (4)))))) (.cnd (decide ((wAll s a 4 1 (IntKind.i64.wrap (IntKind.i64.wrap (↑(s.getD a.toNat 0).toNat:Int) -
 240))).snd > 1114111)) (.ok (PV.d (.int .i64 (0)))) (.ok (PV.d (.int .i64 (4))))))) (.ok (PV.d (.int .i64 (0)))))) (.ok (PV.d (.int .i64 (0))))) (.ok (PV.d (.int
 .i64 (0)))))) (.cnd (decide (IntKind.i64.wrap (↑(s.getD a.toNat 0).toNat:Int) ≥ 240)) (.cnd (decide (IntKind.i64.wrap (↑(s.getD a.toNat 0).toNat:Int) < 248))
 (.chk (decide (0 ≤ a) && decide (a < lim) && decide (1 ≤ 1) && decide (1 ≤ 4) && decide (4 ≤ 4) && decide (0 ≤ IntKind.i64.wrap (IntKind.i64.wrap (↑(s.getD
 a.toNat 0).toNat:Int) - 240)) && decide (IntKind.i64.wrap (IntKind.i64.wrap (↑(s.getD a.toNat 0).toNat:Int) - 240) < 64 ^ Int.toNat 1)) (.cnd ((wAll s a 4 1
 (IntKind.i64.wrap (IntKind.i64.wrap (↑(s.getD a.toNat 0).toNat:Int) - 240))).fst) (.cnd (decide ((wAll s a 4 1 (IntKind.i64.wrap (IntKind.i64.wrap (↑(s.getD
 a.toNat 0).toNat:Int) - 240))).snd < 65536)) (.ok (PV.d (.int .i64 (0)))) (.cnd (decide ((wAll s a 4 1 (IntKind.i64.wrap (IntKind.i64.wrap (↑(s.getD a.toNat
 0).toNat:Int) - 240))).snd ≥ 55296)) (.cnd (decide ((wAll s a 4 1 (IntKind.i64.wrap (IntKind.i64.wrap (↑(s.getD a.toNat 0).toNat:Int) - 240))).snd < 57344))
 (.ok (PV.d (.int .i64 (0)))) (.cnd (decide ((wAll s a 4 1 (IntKind.i64.wrap (IntKind.i64.wrap (↑(s.getD a.toNat 0).toNat:Int) - 240))).snd > 1114111)) (.ok
 (PV.d (.int .i64 (0)))) (.ok (PV.d (.int .i64 (4)))))) (.cnd (decide ((wAll s a 4 1 (IntKind.i64.wrap (IntKind.i64.wrap (↑(s.getD a.toNat 0).toNat:Int) -
 240))).snd > 1114111)) (.ok (PV.d (.int .i64 (0)))) (.ok (PV.d (.int .i64 (4))))))) (.ok (PV.d (.int .i64 (0)))))) (.ok (PV.d (.int .i64 (0))))) (.ok (PV.d (.int
 .i64 (0))))))) (.cnd (decide (IntKind.i64.wrap (↑(s.getD a.toNat 0).toNat:Int) ≥ 224)) (.cnd (decide (IntKind.i64.wrap (↑(s.getD a.toNat 0).toNat:Int) <
 240)) (.chk (decide (0 ≤ a) && decide (a < lim) && decide (1 ≤ 1) && decide (1 ≤ 3) && decide (3 ≤ 4) && decide (0 ≤ IntKind.i64.wrap (IntKind.i64.wrap (↑(s.getD
 a.toNat 0).toNat:Int) - 224)) && decide (IntKind.i64.wrap (IntKind.i64.wrap (↑(s.getD a.toNat 0).toNat:Int) - 224) < 64 ^ Int.toNat 1)) (.cnd ((wAll s a 3 1
 (IntKind.i64.wrap (IntKind.i64.wrap (↑(s.getD a.toNat 0).toNat:Int) - 224))).fst) (.cnd (decide ((wAll s a 3 1 (IntKind.i64.wrap (IntKind.i64.wrap (↑(s.getD
 a.toNat 0).toNat:Int) - 224))).snd < 2048)) (.ok (PV.d (.int .i64 (0)))) (.cnd (decide ((wAll s a 3 1 (IntKind.i64.wrap (IntKind.i64.wrap (↑(s.getD a.toNat
 0).toNat:Int) - 224))).snd ≥ 55296)) (.cnd (decide ((wAll s a 3 1 (IntKind.i64.wrap (IntKind.i64.wrap (↑(s.getD a.toNat 0).toNat:Int) - 224))).snd < 57344))
 (.ok (PV.d (.int .i64 (0)))) (.cnd (decide ((wAll s a 3 1 (IntKind.i64.wrap (IntKind.i64.wrap (↑(s.getD a.toNat 0).toNat:Int) - 224))).snd > 1114111)) (.ok
 (PV.d (.int .i64 (0)))) (.ok (PV.d (.int .i64 (3)))))) (.cnd (decide ((wAll s a 3 1 (IntKind.i64.wrap (IntKind.i64.wrap (↑(s.getD a.toNat 0).toNat:Int) -
 224))).snd > 1114111)) (.ok (PV.d (.int .i64 (0)))) (.ok (PV.d (.int .i64 (3))))))) (.ok (PV.d (.int .i64 (0)))))) (.cnd (decide (IntKind.i64.wrap (↑(s.getD
 a.toNat 0).toNat:Int) ≥ 240)) (.cnd (decide (IntKind.i64.wrap (↑(s.getD a.toNat 0).toNat:Int) < 248)) (.chk (decide (0 ≤ a) && decide (a < lim) && decide (1
 ≤ 1) && decide (1 ≤ 4) && decide (4 ≤ 4) && decide (0 ≤ IntKind.i64.wrap (IntKind.i64.wrap (↑(s.getD a.toNat 0).toNat:Int) - 240)) && decide (IntKind.i64.wrap
 (IntKind.i64.wrap (↑(s.getD a.toNat 0).toNat:Int) - 240) < 64 ^ Int.toNat 1)) (.cnd ((wAll s a 4 1 (IntKind.i64.wrap (IntKind.i64.wrap (↑(s.getD a.toNat
 0).toNat:Int) - 240))).fst) (.cnd (decide ((wAll s a 4 1 (IntKind.i64.wrap (IntKind.i64.wrap (↑(s.getD a.toNat 0).toNat:Int) - 240))).snd < 65536)) (.ok
 (PV.d (.int .i64 (0)))) (.cnd (decide ((wAll s a 4 1 (IntKind.i64.wrap (IntKind.i64.wrap (↑(s.getD a.toNat 0).toNat:Int) - 240))).snd ≥ 55296)) (.cnd (decide
 ((wAll s a 4 1 (IntKind.i64.wrap (IntKind.i64.wrap (↑(s.getD a.toNat 0).toNat:Int) - 240))).snd < 57344)) (.ok (PV.d (.int .i64 (0)))) (.cnd (decide ((wAll s a
 4 1 (IntKind.i64.wrap (IntKind.i64.wrap (↑(s.getD a.toNat 0).toNat:Int) - 240))).snd > 1114111)) (.ok (PV.d (.int .i64 (0)))) (.ok (PV.d (.int .i64 (4))))))
 (.cnd (decide ((wAll s a 4 1 (IntKind.i64.wrap (IntKind.i64.wrap (↑(s.getD a.toNat 0).toNat:Int) - 240))).snd > 1114111)) (.ok (PV.d (.int .i64 (0)))) (.ok
 (PV.d (.int .i64 (4))))))) (.ok (PV.d (.int .i64 (0)))))) (.ok (PV.d (.int .i64 (0))))) (.ok (PV.d (.int .i64 (0)))))) (.cnd (decide (IntKind.i64.wrap (↑(s.getD
 a.toNat 0).toNat:Int) ≥ 240)) (.cnd (decide (IntKind.i64.wrap (↑(s.getD a.toNat 0).toNat:Int) < 248)) (.chk (decide (0 ≤ a) && decide (a < lim) && decide (1
 ≤ 1) && decide (1 ≤ 4) && decide (4 ≤ 4) && decide (0 ≤ IntKind.i64.wrap (IntKind.i64.wrap (↑(s.getD a.toNat 0).toNat:Int) - 240)) && decide (IntKind.i64.wrap
 (IntKind.i64.wrap (↑(s.getD a.toNat 0).toNat:Int) - 240) < 64 ^ Int.toNat 1)) (.cnd ((wAll s a 4 1 (IntKind.i64.wrap (IntKind.i64.wrap (↑(s.getD a.toNat
 0).toNat:Int) - 240))).fst) (.cnd (decide ((wAll s a 4 1 (IntKind.i64.wrap (IntKind.i64.wrap (↑(s.getD a.toNat 0).toNat:Int) - 240))).snd < 65536)) (.ok
 (PV.d (.int .i64 (0)))) (.cnd (decide ((wAll s a 4 1 (IntKind.i64.wrap (IntKind.i64.wrap (↑(s.getD a.toNat 0).toNat:Int) - 240))).snd ≥ 55296)) (.cnd (decide
 ((wAll s a 4 1 (IntKind.i64.wrap (IntKind.i64.wrap (↑(s.getD a.toNat 0).toNat:Int) - 240))).snd < 57344)) (.ok (PV.d (.int .i64 (0)))) (.cnd (decide ((wAll s a
 4 1 (IntKind.i64.wrap (IntKind.i64.wrap (↑(s.getD a.toNat 0).toNat:Int) - 240))).snd > 1114111)) (.ok (PV.d (.int .i64 (0)))) (.ok (PV.d (.int .i64 (4))))))
 (.cnd (decide ((wAll s a 4 1 (IntKind.i64.wrap (IntKind.i64.wrap (↑(s.getD a.toNat 0).toNat:Int) - 240))).snd > 1114111)) (.ok (PV.d (.int .i64 (0)))) (.ok
 (PV.d (.int .i64 (4))))))) (.ok (PV.d (.int .i64 (0)))))) (.ok (PV.d (.int .i64 (0))))) (.ok (PV.d (.int .i64 (0)))))))))))):=by kernel_rfl
end Go.PS
end

section
namespace Go.PS
open Go.Proofs
theorem tdiv_nn {a b:Int} (h:0 ≤ a):a.tdiv b = a / b:=Int.tdiv_eq_ediv_of_nonneg h
theorem tmod_nn {a b:Int} (h:0 ≤ a):a.tmod b = a % b:=Int.tmod_eq_emod_of_nonneg h
theorem pow64 {i c:Int} (hi:1 ≤ i) (h4:i ≤ 4) (hc:c < 64 ^ i.toNat):c < 16777216:=by
  have:i = 1 ∨ i = 2 ∨ i = 3 ∨ i = 4:=by omega
  rcases this with rfl | rfl | rfl | rfl <;> simp at hc <;> omega
theorem loop243 (F:Nat) {R:Type} (s:List UInt8) (a r n l:Int) (K:Ex → St → Option R) (h0:0 ≤ a) (h1:a < 4611686018427387904) (hn:n ≤ 4) :
    ∀ (m:Nat) (i c:Int),1 ≤ i → i ≤ n → 0 ≤ c → c < 64 ^ i.toNat → (n - i).toNat < m → loopK (pcodeK (ctx F []) L243 (lp Tryz.f243 0)) 0 (allBut 100 [0,1,4,6,7,8,9] ++ temps (lp Tryz.f243 0)) (allBut 100 [0,1,4,6,7,8]) m
      ⟨slots 100 [(0,.d (.str s)),(1,.d (.int .i64 a)),(4,.d (.int .i64 r)),(6,.d (.int .i64 n)),(7,.d (.int .i64 c)),(8,.d (.int .i64 l)),(9,.d (.int .i64 i))],[]⟩ K =
      PS.cnd (wAll s a n i c).1
        (K (.exit 1) ⟨slots 100 [(0,.d (.str s)),(1,.d (.int .i64 a)),(4,.d (.int .i64 r)),(6,.d (.int .i64 n)),(7,.d (.int .i64 (wAll s a n i c).2)),(8,.d (.int .i64 l))],[]⟩)
        (K .ret ⟨slots 100 [(0,.d (.str s)),(1,.d (.int .i64 a)),(4,.d (.int .i64 0)),(6,.d (.int .i64 n)),(7,.d (.int .i64 (wAll s a n i c).2)),(8,.d (.int .i64 l))],[]⟩):=by
  intro m
  induction m with
  | zero => intro i c _ _ _ _ hm; omega
  | succ m ih =>
    intro i c hi hin hc0 hc hm
    have hcb:=pow64 hi (by omega) hc
    rw [loopK_succ,round243_0]
    have w1:IntKind.i64.wrap (a + i) = a + i:=wrap64 (by omega) (by omega)
    have hch:=chr_nonneg s (a + i)
    have hcl:=chr_lt s (a + i)
    have w2:IntKind.i64.wrap (chr s (a + i)) = chr s (a + i):=wrap64 (by omega) (by omega)
    have w3:IntKind.i64.wrap (chr s (a + i) / 64) = chr s (a + i) / 64:=wrap64 (by omega) (by omega)
    have w4:IntKind.i64.wrap (64 * c) = 64 * c:=wrap64 (by omega) (by omega)
    have w5:IntKind.i64.wrap (64 * c + chr s (a + i) % 64) = 64 * c + chr s (a + i) % 64:=wrap64 (by omega) (by omega)
    have w6:IntKind.i64.wrap (i + 1) = i + 1:=wrap64 (by omega) (by omega)
    simp only [Tr.run,rnd,w1,chr_def,w2,tdiv_nn hch,tmod_nn hch,w3,w4,w5,w6]
    by_cases hlt:i < n
    · have hfuel:(n - i).toNat + 1 = ((n - (i + 1)).toNat + 1) + 1:=by omega
      have hstep:wAll s a n i c = if a + i < s.length ∧ chr s (a + i) / 64 = 2 then wAll s a n (i + 1) (64 * c + chr s (a + i) % 64) else (false,c):=by
        unfold wAll
        rw [hfuel,wGo,if_pos hlt]
      rw [cnd_t (by simpa using hlt)]
      by_cases hl:a + i < s.length
      · rw [cnd_f (by simpa using hl),chk_t (by simp; omega),chk_t (by simp; omega)]
        by_cases h2:chr s (a + i) / 64 = 2
        · rw [cnd_f (by simp [h2]),chk_t (by simp; omega),chk_t (by simp; omega)]
          have hp:64 * c + chr s (a + i) % 64 < 64 ^ (i + 1).toNat:=by
            have e:(i + 1).toNat = i.toNat + 1:=by omega
            rw [e,Int.pow_succ]
            have:c + 1 ≤ 64 ^ i.toNat:=hc
            omega
          rw [ih (i + 1) _ (by omega) (by omega) (by omega) hp (by omega),hstep,if_pos ⟨hl,h2⟩]
        · rw [cnd_t (by simp [h2]),hstep,if_neg (fun h => h2 h.2)]
          rfl
      · rw [cnd_t (by simpa using hl),hstep,if_neg (fun h => hl h.1)]
        rfl
    · have:wAll s a n i c = (true,c):=by
        unfold wAll
        rw [wGo,if_neg hlt]
      rw [cnd_f (by simpa using hlt),this]
      rfl
theorem lps243 (F:Nat) (hF:4 < F):LpsOk (ctx F []) L243 (loopsOf (body Tryz.f243)):=by
  refine lps_one (c:=lp Tryz.f243 0) rfl (by kernel_rfl) fun R st K r h => ?_
  unfold T243 at h
  cases hs:shape 100 [0,1,4,6,7,8,9] st.slots with
  | false => rw [hs] at h; simp [Tr.run] at h
  | true =>
  rw [hs] at h
  simp only [cond_true] at h
  have he:=shape_eq hs
  obtain ⟨sl0,H⟩:=st
  dsimp only at h he ⊢
  split at h
  · rename_i s a r' n c l i e0 e1 e4 e6 e7 e8 e9
    simp only [List.map_cons,List.map_nil,e0,e1,e4,e6,e7,e8,e9] at he
    subst he
    simp only [Tr.run] at h
    cases hc:(decide (0 ≤ a) && decide (a < lim) && decide (1 ≤ i) && decide (i ≤ n) && decide (n ≤ 4) && decide (0 ≤ c) && decide (c < 64 ^ i.toNat)) with
    | false => rw [hc] at h; simp at h
    | true =>
    rw [hc] at h
    simp only [Bool.and_eq_true,decide_eq_true_eq] at hc
    obtain ⟨⟨⟨⟨⟨⟨h0,h1⟩,h2⟩,h3⟩,h4⟩,h5⟩,h6⟩:=hc
    refine (loop243 F s a r' n l K h0 h1 h4 F i c h2 h3 h5 h6 (by omega)).trans ?_
    rw [← h]
    cases (wAll s a n i c).1 <;> rfl
  · simp [Tr.run] at h
end Go.PS
end

section
namespace Go.PS
open Go.Proofs
def byt (s:List UInt8) (k:Nat):Nat:=(s.getD k 0).toNat
def dec (s:List UInt8) (k:Nat):Nat × Nat:=Lib.decodeN (s.length - k) (byt s k) (byt s (k + 1)) (byt s (k + 2)) (byt s (k + 3))
def width (s:List UInt8) (a:Int):Int :=
  if 0 ≤ a ∧ a < s.length then (if (dec s a.toNat).2 = 1 ∧ 128 ≤ byt s a.toNat then 0 else (dec s a.toNat).2) else 0
def S243:List PV → Tr PV
  | [.d (.str s),.d (.int .i64 a)] => .chk (decide (0 ≤ a) && decide (a + 4 < lim)) (.ok (.d (.int .i64 (width s a))))
  | _ => .no
theorem byt_lt (s:List UInt8) (k:Nat):byt s k < 256:=(s.getD k 0).toNat_lt
theorem chr_byt (s:List UInt8) (k:Nat):chr s (k:Int) = (byt s k:Int):=by unfold chr byt; simp
theorem chr_byt' (s:List UInt8) (k j:Nat):chr s ((k:Int) + (j:Int)) = (byt s (k + j):Int):=by
  rw [← chr_byt]; congr 1
theorem wAll2 (s:List UInt8) (a c:Int):wAll s a 2 1 c = if a + 1 < s.length ∧ chr s (a + 1) / 64 = 2 then (true,64 * c + chr s (a + 1) % 64) else (false,c):=by
  simp [wAll,wGo]
theorem wAll3 (s:List UInt8) (a c:Int):wAll s a 3 1 c = if a + 1 < s.length ∧ chr s (a + 1) / 64 = 2 then (if a + 2 < s.length ∧ chr s (a + 2) / 64 = 2 then (true,64 * (64 * c + chr s (a + 1) % 64) + chr s (a + 2) % 64) else (false,64 * c + chr s (a + 1) % 64)) else (false,c):=by
  simp [wAll,wGo]
theorem wAll4 (s:List UInt8) (a c:Int):wAll s a 4 1 c = if a + 1 < s.length ∧ chr s (a + 1) / 64 = 2 then (if a + 2 < s.length ∧ chr s (a + 2) / 64 = 2 then (if a + 3 < s.length ∧ chr s (a + 3) / 64 = 2 then (true,64 * (64 * (64 * c + chr s (a + 1) % 64) + chr s (a + 2) % 64) + chr s (a + 3) % 64) else (false,64 * (64 * c + chr s (a + 1) % 64) + chr s (a + 2) % 64)) else (false,64 * c + chr s (a + 1) % 64)) else (false,c):=by
  simp [wAll,wGo]
end Go.PS
namespace Go.PS
open Go.Proofs
theorem fin_tree (n c l:Int):PS.cnd (decide (c < l)) (some (PV.d (DV.int .i64 0)))
      (PS.cnd (decide (c ≥ 55296)) (PS.cnd (decide (c < 57344)) (some (PV.d (DV.int .i64 0))) (PS.cnd (decide (c > 1114111)) (some (PV.d (DV.int .i64 0))) (some (PV.d (DV.int .i64 n)))))
        (PS.cnd (decide (c > 1114111)) (some (PV.d (DV.int .i64 0))) (some (PV.d (DV.int .i64 n))))) =
    some (.d (.int .i64 (if c < l ∨ (55296 ≤ c ∧ c < 57344) ∨ 1114111 < c then 0 else n))):=by
  simp only [cnd_dec,ge_iff_le,gt_iff_lt]
  by_cases h1:c < l
  · simp [h1]
  · by_cases h2:55296 ≤ c
    · by_cases h3:c < 57344
      · simp [h1,h2,h3]
      · by_cases h4:1114111 < c <;> simp [h1,h2,h3,h4]
    · by_cases h4:1114111 < c <;> simp [h1,h2,h4]
theorem t61 {a c:Int} {n:Nat} (h0:0 ≤ a) (h1:a < 4611686018427387904) (h2:1 ≤ n) (h3:n ≤ 4) (h4:0 ≤ c) (h5:c < 64) :
    (decide (0 ≤ a) && decide (a < lim) && decide (1 ≤ 1) && decide (1 ≤ n) && decide (n ≤ 4) && decide (0 ≤ c) && decide (c < 64 ^ Int.toNat 1)) = true:=by
  simp only [Bool.and_eq_true,decide_eq_true_eq]
  exact ⟨⟨⟨⟨⟨⟨h0,h1⟩,Nat.le_refl _⟩,h2⟩,h3⟩,h4⟩,h5⟩
def wOf (n l:Int) (p:Bool × Int):Int:=if p.1 then (if p.2 < l ∨ (55296 ≤ p.2 ∧ p.2 < 57344) ∨ 1114111 < p.2 then 0 else n) else 0
theorem wOf_tree (n l:Int) (p:Bool × Int):PS.cnd p.1 (some (PV.d (DV.int .i64 (if p.2 < l ∨ (55296 ≤ p.2 ∧ p.2 < 57344) ∨ 1114111 < p.2 then 0 else n)))) (some (PV.d (DV.int .i64 0))) = some (.d (.int .i64 (wOf n l p))):=by
  unfold wOf
  cases p.1 <;> rfl
section
variable (s:List UInt8) (k:Nat) (hk:k < s.length)
include hk
theorem width_lo (c1:byt s k < 128):width s k = 1:=by
  unfold width
  rw [if_pos ⟨by omega,by omega⟩]
  simp only [Int.toNat_natCast,dec,Lib.decodeN,if_pos c1]
  rw [if_neg (by omega)]
  rfl
theorem width_2 (c1:192 ≤ byt s k) (c2:byt s k < 224):width s k = wOf 2 128 (wAll s k 2 1 ((byt s k:Int) - 192)):=by
  have hb:=byt_lt s k
  have hb1:=byt_lt s (k + 1)
  have e1:chr s ((k:Int) + 1) = (byt s (k + 1):Int):=chr_byt' s k 1
  rw [wAll2,e1]
  unfold width
  rw [if_pos ⟨by omega,by omega⟩]
  have d1:¬ byt s k < 128:=by omega
  have d2:byt s k / 32 = 6:=by omega
  have d3:¬ byt s k / 16 = 14:=by omega
  have d4:¬ byt s k / 8 = 30:=by omega
  have d5:128 ≤ byt s k:=by omega
  simp only [Int.toNat_natCast,dec,Lib.decodeN,d1,d2,d3,d4,d5,if_false,true_and,false_and,and_true]
  by_cases hA:1 < s.length - k ∧ byt s (k + 1) / 64 = 2
  · rw [if_pos hA,if_pos (show (k:Int) + 1 < s.length ∧ (byt s (k + 1):Int) / 64 = 2 by omega)]
    simp only [wOf,if_true]
    by_cases hc:byt s k % 32 * 64 + byt s (k + 1) % 64 ≥ 128
    · rw [if_pos hc,if_neg (by simp),if_neg (by omega)]; rfl
    · rw [if_neg hc,if_pos rfl,if_pos (by omega)]
  · rw [if_neg hA,if_neg (show ¬ ((k:Int) + 1 < s.length ∧ (byt s (k + 1):Int) / 64 = 2) by omega)]
    rfl
theorem width_3 (c1:224 ≤ byt s k) (c2:byt s k < 240):width s k = wOf 3 2048 (wAll s k 3 1 ((byt s k:Int) - 224)):=by
  have hb:=byt_lt s k
  have hb1:=byt_lt s (k + 1)
  have hb2:=byt_lt s (k + 2)
  have e1:chr s ((k:Int) + 1) = (byt s (k + 1):Int):=chr_byt' s k 1
  have e2:chr s ((k:Int) + 2) = (byt s (k + 2):Int):=chr_byt' s k 2
  rw [wAll3,e1,e2]
  unfold width
  rw [if_pos ⟨by omega,by omega⟩]
  have d1:¬ byt s k < 128:=by omega
  have d2:¬ byt s k / 32 = 6:=by omega
  have d3:byt s k / 16 = 14:=by omega
  have d4:¬ byt s k / 8 = 30:=by omega
  have d5:128 ≤ byt s k:=by omega
  simp only [Int.toNat_natCast,dec,Lib.decodeN,d1,d2,d3,d4,d5,if_false,true_and,false_and,and_true]
  by_cases hA:(1 < s.length - k ∧ byt s (k + 1) / 64 = 2) ∧ (2 < s.length - k ∧ byt s (k + 2) / 64 = 2)
  · rw [if_pos hA,if_pos (show (k:Int) + 1 < s.length ∧ (byt s (k + 1):Int) / 64 = 2 by omega),if_pos (show (k:Int) + 2 < s.length ∧ (byt s (k + 2):Int) / 64 = 2 by omega)]
    simp only [wOf,if_true]
    by_cases hc:byt s k % 16 * 4096 + byt s (k + 1) % 64 * 64 + byt s (k + 2) % 64 ≥ 2048 ∧ (byt s k % 16 * 4096 + byt s (k + 1) % 64 * 64 + byt s (k + 2) % 64 < 55296 ∨ (57344 ≤ byt s k % 16 * 4096 + byt s (k + 1) % 64 * 64 + byt s (k + 2) % 64 ∧ byt s k % 16 * 4096 + byt s (k + 1) % 64 * 64 + byt s (k + 2) % 64 ≤ 1114111))
    · rw [if_pos hc,if_neg (by simp),if_neg (by omega)]; rfl
    · rw [if_neg hc,if_pos rfl,if_pos (by omega)]
  · rw [if_neg hA]
    by_cases hB:(k:Int) + 1 < s.length ∧ (byt s (k + 1):Int) / 64 = 2
    · rw [if_pos hB,if_neg (show ¬ ((k:Int) + 2 < s.length ∧ (byt s (k + 2):Int) / 64 = 2) by omega)]
      rfl
    · rw [if_neg hB]
      rfl
theorem width_4 (c1:240 ≤ byt s k) (c2:byt s k < 248):width s k = wOf 4 65536 (wAll s k 4 1 ((byt s k:Int) - 240)):=by
  have hb:=byt_lt s k
  have hb1:=byt_lt s (k + 1)
  have hb2:=byt_lt s (k + 2)
  have hb3:=byt_lt s (k + 3)
  have e1:chr s ((k:Int) + 1) = (byt s (k + 1):Int):=chr_byt' s k 1
  have e2:chr s ((k:Int) + 2) = (byt s (k + 2):Int):=chr_byt' s k 2
  have e3:chr s ((k:Int) + 3) = (byt s (k + 3):Int):=chr_byt' s k 3
  rw [wAll4,e1,e2,e3]
  unfold width
  rw [if_pos ⟨by omega,by omega⟩]
  have d1:¬ byt s k < 128:=by omega
  have d2:¬ byt s k / 32 = 6:=by omega
  have d3:¬ byt s k / 16 = 14:=by omega
  have d4:byt s k / 8 = 30:=by omega
  have d5:128 ≤ byt s k:=by omega
  simp only [Int.toNat_natCast,dec,Lib.decodeN,d1,d2,d3,d4,d5,if_false,true_and,false_and,and_true]
  by_cases hA:(1 < s.length - k ∧ byt s (k + 1) / 64 = 2) ∧ (2 < s.length - k ∧ byt s (k + 2) / 64 = 2) ∧ (3 < s.length - k ∧ byt s (k + 3) / 64 = 2)
  · rw [if_pos hA,if_pos (show (k:Int) + 1 < s.length ∧ (byt s (k + 1):Int) / 64 = 2 by omega),if_pos (show (k:Int) + 2 < s.length ∧ (byt s (k + 2):Int) / 64 = 2 by omega),if_pos (show (k:Int) + 3 < s.length ∧ (byt s (k + 3):Int) / 64 = 2 by omega)]
    simp only [wOf,if_true]
    by_cases hc:byt s k % 8 * 262144 + byt s (k + 1) % 64 * 4096 + byt s (k + 2) % 64 * 64 + byt s (k + 3) % 64 ≥ 65536 ∧ (byt s k % 8 * 262144 + byt s (k + 1) % 64 * 4096 + byt s (k + 2) % 64 * 64 + byt s (k + 3) % 64 < 55296 ∨ (57344 ≤ byt s k % 8 * 262144 + byt s (k + 1) % 64 * 4096 + byt s (k + 2) % 64 * 64 + byt s (k + 3) % 64 ∧ byt s k % 8 * 262144 + byt s (k + 1) % 64 * 4096 + byt s (k + 2) % 64 * 64 + byt s (k + 3) % 64 ≤ 1114111))
    · rw [if_pos hc,if_neg (by simp),if_neg (by omega)]; rfl
    · rw [if_neg hc,if_pos rfl,if_pos (by omega)]
  · rw [if_neg hA]
    by_cases hB:(k:Int) + 1 < s.length ∧ (byt s (k + 1):Int) / 64 = 2
    · rw [if_pos hB]
      by_cases hC:(k:Int) + 2 < s.length ∧ (byt s (k + 2):Int) / 64 = 2
      · rw [if_pos hC,if_neg (show ¬ ((k:Int) + 3 < s.length ∧ (byt s (k + 3):Int) / 64 = 2) by omega)]
        rfl
      · rw [if_neg hC]
        rfl
    · rw [if_neg hB]
      rfl
theorem width_no (c1:128 ≤ byt s k) (c2:byt s k < 192 ∨ 248 ≤ byt s k):width s k = 0:=by
  have hb:=byt_lt s k
  unfold width
  rw [if_pos ⟨by omega,by omega⟩]
  have d1:¬ byt s k < 128:=by omega
  have d2:¬ byt s k / 32 = 6:=by omega
  have d3:¬ byt s k / 16 = 14:=by omega
  have d4:¬ byt s k / 8 = 30:=by omega
  simp [dec,Lib.decodeN,d1,d2,d3,d4,c1]
end
set_option maxHeartbeats 4000000 in
theorem ok243 (W0:World):EKOk Tryz.prog W0 243 (.pure S243):=by
  refine pure_of (tyOk 5 []) (look_ok all_nil) mixed fn243 (lps243 5 (by omega)) fun args r h => ?_
  unfold S243 at h
  split at h
  · rename_i s a
    refine (run243 5 s a).trans ?_
    rw [← h]
    simp only [Tr.val_chk,chk_some,Bool.and_eq_true,decide_eq_true_eq] at h
    obtain ⟨⟨h0,h1⟩,_⟩:=h
    unfold lim at h1
    obtain ⟨k,rfl⟩:=Int.eq_ofNat_of_zero_le h0
    have hb:=byt_lt s k
    have e0:chr s (k:Int) = (byt s k:Int):=chr_byt s k
    have w0:IntKind.i64.wrap (byt s k:Int) = (byt s k:Int):=wrap64 (by omega) (by omega)
    have w1:IntKind.i64.wrap ((byt s k:Int) - 192) = (byt s k:Int) - 192:=wrap64 (by omega) (by omega)
    have w2:IntKind.i64.wrap ((byt s k:Int) - 224) = (byt s k:Int) - 224:=wrap64 (by omega) (by omega)
    have w3:IntKind.i64.wrap ((byt s k:Int) - 240) = (byt s k:Int) - 240:=wrap64 (by omega) (by omega)
    simp only [Tr.val_ok,Tr.val_cnd,Tr.val_chk,chr_def,e0,w0,w1,w2,w3,fin_tree,wOf_tree]
    rw [chk_t (lim_ok h0 (m:=(k:Int) + 4) (by omega))]
    rw [cnd_f (b:=decide ((k:Int) < 0)) (by simp only [decide_eq_false_iff_not]; omega)]
    by_cases hk:k < s.length
    · rw [cnd_f (b:=decide ((k:Int) ≥ s.length)) (by simp only [decide_eq_false_iff_not]; omega),chk_t (by simp only [decide_eq_true_eq]; omega),chk_t (by simpa using hk)]
      by_cases c1:byt s k < 128
      · rw [cnd_t (by simp only [decide_eq_true_eq]; omega),width_lo s k hk c1]
      · rw [cnd_f (by simp only [decide_eq_false_iff_not]; omega)]
        by_cases c2:192 ≤ byt s k
        · rw [cnd_t (b:=decide ((byt s k:Int) ≥ 192)) (by simp only [decide_eq_true_eq]; omega)]
          by_cases c3:byt s k < 224
          · rw [cnd_t (b:=decide ((byt s k:Int) < 224)) (by simp only [decide_eq_true_eq]; omega),chk_t (t61 (n:=2) h0 (by omega) (by omega) (by omega) (by omega) (by omega)),width_2 s k hk c2 c3]
          · rw [cnd_f (b:=decide ((byt s k:Int) < 224)) (by simp only [decide_eq_false_iff_not]; omega),cnd_t (b:=decide ((byt s k:Int) ≥ 224)) (by simp only [decide_eq_true_eq]; omega)]
            by_cases c4:byt s k < 240
            · rw [cnd_t (b:=decide ((byt s k:Int) < 240)) (by simp only [decide_eq_true_eq]; omega),chk_t (t61 (n:=3) h0 (by omega) (by omega) (by omega) (by omega) (by omega)),width_3 s k hk (by omega) c4]
            · rw [cnd_f (b:=decide ((byt s k:Int) < 240)) (by simp only [decide_eq_false_iff_not]; omega),cnd_t (b:=decide ((byt s k:Int) ≥ 240)) (by simp only [decide_eq_true_eq]; omega)]
              by_cases c5:byt s k < 248
              · rw [cnd_t (b:=decide ((byt s k:Int) < 248)) (by simp only [decide_eq_true_eq]; omega),chk_t (t61 (n:=4) h0 (by omega) (by omega) (by omega) (by omega) (by omega)),width_4 s k hk (by omega) c5]
              · rw [cnd_f (b:=decide ((byt s k:Int) < 248)) (by simp only [decide_eq_false_iff_not]; omega),width_no s k hk (by omega) (by omega)]
        · rw [cnd_f (b:=decide ((byt s k:Int) ≥ 192)) (by simp only [decide_eq_false_iff_not]; omega),cnd_f (b:=decide ((byt s k:Int) ≥ 224)) (by simp only [decide_eq_false_iff_not]; omega),cnd_f (b:=decide ((byt s k:Int) ≥ 240)) (by simp only [decide_eq_false_iff_not]; omega),width_no s k hk (by omega) (by omega)]
    · rw [cnd_t (by simp only [decide_eq_true_eq]; omega)]
      unfold width
      rw [if_neg (fun h => hk (by omega))]
  · simp [Tr.val_no] at h
end Go.PS
end

section
namespace Go.PS
open Go.Proofs
theorem get_bang (l:List UInt8) (i:Nat):(⟨l.toArray⟩:ByteArray).get! i = l.getD i 0:=by
  unfold ByteArray.get!
  simp [List.getD_eq_getElem?_getD]
  cases h:l[i]? <;> simp [getElem!_def,h]
  rfl
theorem dec_drop (s:List UInt8) (k:Nat) (h:k < s.length):Lib.decodeGo ⟨(s.drop k).toArray⟩ = dec s k:=by
  unfold Lib.decodeGo
  have hs:(⟨(s.drop k).toArray⟩:ByteArray).size = s.length - k:=by show (s.drop k).toArray.size = _; simp
  rw [if_neg (by rw [hs]; omega),Lib.decode_at,hs]
  simp only [get_bang]
  unfold dec byt
  have e:∀ j,(s.drop k).getD j 0 = s.getD (k + j) 0:=by
    intro j
    simp [List.getD_eq_getElem?_getD,List.getElem?_drop]
  simp only [Nat.zero_add,Nat.sub_zero,e,Nat.add_zero]
end Go.PS
namespace Go.PS
open Go.Proofs
theorem dec_cases (s:List UInt8) (k:Nat) (h:k < s.length):(byt s k < 128 ∧ dec s k = (byt s k,1) ∧ width s k = 1) ∨
    (128 ≤ byt s k ∧ dec s k = (65533,1) ∧ width s k = 0) ∨ (128 ≤ byt s k ∧ 128 ≤ (dec s k).1 ∧ 2 ≤ (dec s k).2 ∧ (dec s k).2 ≤ s.length - k ∧ width s k = (dec s k).2):=by
  have hw:width s k = if (dec s k).2 = 1 ∧ 128 ≤ byt s k then 0 else ((dec s k).2:Int):=by
    unfold width
    rw [if_pos ⟨by omega,by omega⟩]
    simp only [Int.toNat_natCast]
  have hd:dec s k = Lib.decodeN (s.length - k) (byt s k) (byt s (k + 1)) (byt s (k + 2)) (byt s (k + 3)):=rfl
  by_cases c:byt s k < 128
  · left
    have:dec s k = (byt s k,1):=by rw [hd]; unfold Lib.decodeN; rw [if_pos c]
    exact ⟨c,this,width_lo s k h c⟩
  · right
    unfold Lib.decodeN at hd
    rw [if_neg c] at hd
    split at hd
    · rename_i g
      split at hd
      · right; rw [hw,hd]; exact ⟨by omega,by simp only; omega,by simp,by simp only; omega,by simp⟩
      · left; rw [hw,hd]; exact ⟨by omega,rfl,if_pos ⟨rfl,by omega⟩⟩
    · split at hd
      · rename_i g
        split at hd
        · right; rw [hw,hd]; exact ⟨by omega,by simp only; omega,by simp,by simp only; omega,by simp⟩
        · left; rw [hw,hd]; exact ⟨by omega,rfl,if_pos ⟨rfl,by omega⟩⟩
      · split at hd
        · rename_i g
          split at hd
          · right; rw [hw,hd]; exact ⟨by omega,by simp only; omega,by simp,by simp only; omega,by simp⟩
          · left; rw [hw,hd]; exact ⟨by omega,rfl,if_pos ⟨rfl,by omega⟩⟩
        · left; rw [hw,hd]; exact ⟨by omega,rfl,if_pos ⟨rfl,by omega⟩⟩
structure VR where
  kind:Int
  n:Int
  txt:List UInt8
  pos:Int
  err:Int
  fin:Int
  off:Bool
def VR.pv (r:VR):PV:=.tup [.d (.agg [.int .i64 r.kind,.int .i64 r.n,.str r.txt]),.d (.int .i64 r.pos),.d (.int .i64 r.err)]
def textGo (s:List UInt8):Nat → Int → List UInt8 → VR
  | 0,a,_ => ⟨0,0,[],s.length,3,a,true⟩
  | m + 1,a,out =>
    if a < s.length then
      (if chr s a = 34 then
        (if a + 1 < s.length then ⟨0,0,[],a + 1,4,a + 1,false⟩ else if 40 < out.length then ⟨0,0,[],0,5,a + 1,false⟩ else ⟨2,0,out,a + 1,0,a + 1,false⟩)
      else if chr s a = 92 then
        (if escV s (a + 1) < 0 then ⟨0,0,[],failN s (escTo s (a + 1)),failE s (escTo s (a + 1)),escTo s (a + 1),false⟩
        else textGo s m (escTo s (a + 1)) (out ++ [UInt8.ofNat (escV s (a + 1)).toNat]))
      else if width s a = 0 ∨ chr s a < 32 ∨ chr s a = 127 then ⟨0,0,[],a,4,a,false⟩
      else textGo s m (a + width s a) (out ++ (s.drop a.toNat).take (width s a).toNat))
    else ⟨0,0,[],s.length,3,a,true⟩
def FU:Nat:=10000000
def big:Nat:=1000000
def T255 (st:St):Tr (Ex × St) :=
  bif shape 148 [0,2,3,4,5] st.slots then
    match gt .undef st.slots 0,gt .undef st.slots 2,gt .undef st.slots 3,gt .undef st.slots 4,gt .undef st.slots 5,st.heap with
    | .ptr 0 0,.ptr 1 0,.d (.int .i64 e3),.d (.int .i64 e4),.own 1 l,[.cells [.d (.str s),.d (.int .i64 a)],.cells [.d (.int .i64 k0),.d (.int .i64 n0),.d (.str t0)]] =>
      .chk (decide (0 ≤ a) && decide (a ≤ s.length) && decide (s.length ≤ big) && allU8 l && decide (l.length ≤ a)) (.cnd (textGo s FU a (bytesOf l)).off
        (.ok (.exit 0,⟨slots 148 [(0,.ptr 0 0),(2,.ptr 1 0),(3,.d (.int .i64 e3)),(4,.d (.int .i64 e4))],[.cells [.d (.str s),.d (.int .i64 (textGo s FU a (bytesOf l)).fin)],.cells [.d (.int .i64 k0),.d (.int .i64 n0),.d (.str t0)]]⟩))
        (.ok (.ret,⟨slots 148 [(0,.ptr 0 0),(2,.ptr 1 0),(3,.d (.int .i64 (textGo s FU a (bytesOf l)).pos)),(4,.d (.int .i64 (textGo s FU a (bytesOf l)).err))],[.cells [.d (.str s),.d (.int .i64 (textGo s FU a (bytesOf l)).fin)],.cells [.d (.int .i64 (textGo s FU a (bytesOf l)).kind),.d (.int .i64 (textGo s FU a (bytesOf l)).n),.d (.str (textGo s FU a (bytesOf l)).txt)]]⟩)))
    | _,_,_,_,_,_ => .no
  else .no
def L255:Lps:=fun i => bif Nat.beq i 3 then some (allBut 148 [0,2,3,4,5],allBut 148 [0,2,3,4],T255) else none
end Go.PS
end

section
namespace Go.PS
open Go.Proofs
set_option maxRecDepth 100000
theorem round255_0 (F:Nat) {R:Type} (s:List UInt8) (n e3 e4 k0 n0:Int) (t0:List UInt8) (l:List DV) (K:Ex → St → Option R) (G:St → Option R) :
 roundK (pcodeK (ctx F [(257,.eff (frameT S257)),(270,.pure S270),(271,.eff (frameT S271))]) L255 (lp Tryz.f255 0)) 2 (allBut 148 [0,2,3,4,5] ++ temps
 (lp Tryz.f255 0)) (allBut 148 [0,2,3,4]) ⟨slots 148 [(0,.ptr 0 0),(2,.ptr 1 0),(3,.d (.int .i64 e3)),(4,.d (.int .i64 e4)),(5,.own 1 l)],[.cells [.d
 (.str s),.d (.int .i64 n)],.cells [.d (.int .i64 k0),.d (.int .i64 n0),.d (.str t0)]]⟩ K G = Tr.run (.cnd (decide (n < (↑s.length:Int))) (.chk (decide (0 ≤
 n)) (.chk (decide (n ≤ (↑s.length:Int))) (.chk (decide ((↑s.length:Int) ≤ (↑s.length:Int))) (.cnd (decide (runeC (List.drop n.toNat (List.take (↑s.length :
 Int).toNat s)) = 34)) (.cnd (decide (IntKind.i64.wrap (n + 1) < (↑s.length:Int))) (.ok (.inl (Ex.ret,⟨slots 148 [(0,PV.ptr 0 0),(2,PV.ptr 1 0),(3,.d
 (.int .i64 (failN s (IntKind.i64.wrap (n + 1))))),(4,.d (.int .i64 (failE s (IntKind.i64.wrap (n + 1)))))],[PObj.cells [.d (.str s),.d (.int .i64
 (IntKind.i64.wrap (n + 1)))],PObj.cells [.d (.int .i64 (0)),.d (.int .i64 (0)),.d (.str [])]]⟩))) (.cnd (decide ((↑l.length:Int) > 40)) (.ok (.inl (Ex.ret,
 ⟨slots 148 [(0,PV.ptr 0 0),(2,PV.ptr 1 0),(3,.d (.int .i64 (0))),(4,.d (.int .i64 (5)))],[PObj.cells [.d (.str s),.d (.int .i64 (IntKind.i64.wrap (n +
 1)))],PObj.cells [.d (.int .i64 (0)),.d (.int .i64 (0)),.d (.str [])]]⟩))) (.chk (allU8 l) (.ok (.inl (Ex.ret,⟨slots 148 [(0,PV.ptr 0 0),(2,PV.ptr 1 0),
 (3,.d (.int .i64 (IntKind.i64.wrap (n + 1)))),(4,.d (.int .i64 (0)))],[PObj.cells [.d (.str s),.d (.int .i64 (IntKind.i64.wrap (n + 1)))],PObj.cells [.d
 (.int .i64 (2)),.d (.int .i64 (0)),.d (.str (bytesOf l))]]⟩)))))) (.cnd (decide (runeC (List.drop n.toNat (List.take (↑s.length:Int).toNat s)) = 92)) (.chk
 (decide (0 ≤ IntKind.i64.wrap (n + 1)) && decide (IntKind.i64.wrap (n + 1) + 3 < lim)) (.cnd (!decide (0 ≤ escV s (IntKind.i64.wrap (n + 1)))) (.ok (.inl
 (Ex.ret,⟨slots 148 [(0,PV.ptr 0 0),(2,PV.ptr 1 0),(3,.d (.int .i64 (failN s (escTo s (IntKind.i64.wrap (n + 1)))))),(4,.d (.int .i64 (failE s (escTo s
 (IntKind.i64.wrap (n + 1))))))],[PObj.cells [.d (.str s),.d (.int .i64 (escTo s (IntKind.i64.wrap (n + 1))))],PObj.cells [.d (.int .i64 (0)),.d (.int .i64
 (0)),.d (.str [])]]⟩))) (.chk (limit 1 (l.length + (fillS (rep 1 (zeroDV ((ctx F [(45,EK.eff (frameT S257)),(75,EK.pure S270),(76,EK.eff (frameT
 S271))]).ty 5))) [(0,.int .u8 (if escV s (IntKind.i64.wrap (n + 1)) < 0 then 0 else escV s (IntKind.i64.wrap (n + 1))))]).length)) (.ok (.inr ⟨slots 148 [(0,
 PV.ptr 0 0),(2,PV.ptr 1 0),(3,.d (.int .i64 e3)),(4,.d (.int .i64 e4)),(5,PV.own 1 (l ++ [.int .u8 (if escV s (IntKind.i64.wrap (n + 1)) < 0 then 0 else
 escV s (IntKind.i64.wrap (n + 1)))]))],[PObj.cells [.d (.str s),.d (.int .i64 (escTo s (IntKind.i64.wrap (n + 1))))],PObj.cells [.d (.int .i64 k0),.d (.int
 .i64 n0),.d (.str t0)]]⟩))))) (.cnd (decide (runeC (List.drop n.toNat (List.take (↑s.length:Int).toNat s)) < 32)) (.ok (.inl (Ex.ret,⟨slots 148 [(0,PV.ptr 0
 0),(2,PV.ptr 1 0),(3,.d (.int .i64 (failN s n))),(4,.d (.int .i64 (failE s n)))],[PObj.cells [.d (.str s),.d (.int .i64 n)],PObj.cells [.d (.int .i64
 (0)),.d (.int .i64 (0)),.d (.str [])]]⟩))) (.cnd (decide (runeC (List.drop n.toNat (List.take (↑s.length:Int).toNat s)) = 127)) (.ok (.inl (Ex.ret,⟨slots
 148 [(0,PV.ptr 0 0),(2,PV.ptr 1 0),(3,.d (.int .i64 (failN s n))),(4,.d (.int .i64 (failE s n)))],[PObj.cells [.d (.str s),.d (.int .i64 n)],PObj.cells
 [.d (.int .i64 (0)),.d (.int .i64 (0)),.d (.str [])]]⟩))) (.cnd (decide (runeC (List.drop n.toNat (List.take (↑s.length:Int).toNat s)) = 65533)) (.cnd
 (decide (runeN (List.drop n.toNat (List.take (↑s.length:Int).toNat s)) < 2)) (.ok (.inl (Ex.ret,⟨slots 148 [(0,PV.ptr 0 0),(2,PV.ptr 1 0),(3,.d (.int
 .i64 (failN s n))),(4,.d (.int .i64 (failE s n)))],[PObj.cells [.d (.str s),.d (.int .i64 n)],PObj.cells [.d (.int .i64 (0)),.d (.int .i64 (0)),.d (.str
 [])]]⟩))) (.chk (decide (0 ≤ n)) (.chk (decide (n ≤ IntKind.i64.wrap (n + runeN (List.drop n.toNat (List.take (↑s.length:Int).toNat s))))) (.chk (decide
 (IntKind.i64.wrap (n + runeN (List.drop n.toNat (List.take (↑s.length:Int).toNat s))) ≤ (↑s.length:Int))) (.chk (limit 1 (l.length + (List.drop n.toNat
 (List.take (IntKind.i64.wrap (n + runeN (List.drop n.toNat (List.take (↑s.length:Int).toNat s)))).toNat s)).length)) (.ok (.inr ⟨slots 148 [(0,PV.ptr 0 0),
 (2,PV.ptr 1 0),(3,.d (.int .i64 e3)),(4,.d (.int .i64 e4)),(5,PV.own 1 (l ++ bytesDV (List.drop n.toNat (List.take (IntKind.i64.wrap (n + runeN (List.drop
 n.toNat (List.take (↑s.length:Int).toNat s)))).toNat s))))],[PObj.cells [.d (.str s),.d (.int .i64 (IntKind.i64.wrap (n + runeN (List.drop n.toNat (List.take
 (↑s.length:Int).toNat s)))))],PObj.cells [.d (.int .i64 k0),.d (.int .i64 n0),.d (.str t0)]]⟩))))))) (.chk (decide (0 ≤ n)) (.chk (decide (n ≤
 IntKind.i64.wrap (n + runeN (List.drop n.toNat (List.take (↑s.length:Int).toNat s))))) (.chk (decide (IntKind.i64.wrap (n + runeN (List.drop n.toNat (List.take
 (↑s.length:Int).toNat s))) ≤ (↑s.length:Int))) (.chk (limit 1 (l.length + (List.drop n.toNat (List.take (IntKind.i64.wrap (n + runeN (List.drop n.toNat
 (List.take (↑s.length:Int).toNat s)))).toNat s)).length)) (.ok (.inr ⟨slots 148 [(0,PV.ptr 0 0),(2,PV.ptr 1 0),(3,.d (.int .i64 e3)),(4,.d (.int .i64
 e4)),(5,PV.own 1 (l ++ bytesDV (List.drop n.toNat (List.take (IntKind.i64.wrap (n + runeN (List.drop n.toNat (List.take (↑s.length:Int).toNat s)))).toNat
 s))))],[PObj.cells [.d (.str s),.d (.int .i64 (IntKind.i64.wrap (n + runeN (List.drop n.toNat (List.take (↑s.length:Int).toNat s)))))],PObj.cells [.d (.int
 .i64 k0),.d (.int .i64 n0),.d (.str t0)]]⟩)))))))))))))) (.ok (.inl (Ex.exit 0,⟨slots 148 [(0,PV.ptr 0 0),(2,PV.ptr 1 0),(3,.d (.int .i64 e3)),(4,.d
 (.int .i64 e4))],[PObj.cells [.d (.str s),.d (.int .i64 n)],PObj.cells [.d (.int .i64 k0),.d (.int .i64 n0),.d (.str t0)]]⟩)))) (rnd K G):=by kernel_rfl
theorem fn255:FnOk Tryz.prog 255 148 [.cell 2 48,.tmp 3,.tmp 4] (body Tryz.f255):=⟨Tryz.f255,Tryz.func255,bodySome _ (by kernel_rfl),by kernel_rfl,by kernel_rfl,by kernel_rfl,by kernel_rfl⟩
theorem run255 (F:Nat) (s:List UInt8) (n:Int):runE (ctx F [(257,.eff (frameT S257)),(270,.pure S270),(271,.eff (frameT S271))]) L255 148 [.cell 2
 48,.tmp 3,.tmp 4] (body Tryz.f255) [.ptr 0 0] [.cells [.d (.str s),.d (.int .i64 n)]] = Tr.val (.chk (decide (0 ≤ 1) && decide (1 ≤ (↑s.length:Int)) &&
 decide (s.length ≤ big) && allU8 [] && decide ((0:Int) ≤ 1)) (.cnd ((textGo s FU 1 (bytesOf [])).off) (.ok ((Out.ret (PV.tup [.d (DV.agg [.int .i64 (0),.int
 .i64 (0),.str []]),.d (.int .i64 (failN s (textGo s FU 1 (bytesOf [])).fin)),.d (.int .i64 (failE s (textGo s FU 1 (bytesOf [])).fin))]),[PObj.cells [.d
 (.str s),.d (.int .i64 (textGo s FU 1 (bytesOf [])).fin)]]))) (.ok ((Out.ret (PV.tup [.d (DV.agg [.int .i64 (textGo s FU 1 (bytesOf [])).kind,.int .i64 (textGo
 s FU 1 (bytesOf [])).n,.str (textGo s FU 1 (bytesOf [])).txt]),.d (.int .i64 (textGo s FU 1 (bytesOf [])).pos),.d (.int .i64 (textGo s FU 1 (bytesOf
 [])).err)]),[PObj.cells [.d (.str s),.d (.int .i64 (textGo s FU 1 (bytesOf [])).fin)]]))))):=by kernel_rfl
end Go.PS
end

section
namespace Go.PS
open Go.Proofs
theorem bytesOf_append (l r:List DV):bytesOf (l ++ r) = bytesOf l ++ bytesOf r:=by
  induction l with
  | nil => rfl
  | cons v l ih => cases v <;> simp [bytesOf,ih]
theorem bytesOf_bytesDV (s:List UInt8):bytesOf (bytesDV s) = s:=by
  induction s with
  | nil => rfl
  | cons b s ih =>
    simp only [bytesDV,List.map_cons,bytesOf,Int.toNat_natCast] at ih ⊢
    rw [ih]; simp
theorem allU8_append {l r:List DV} (h1:allU8 l = true) (h2:allU8 r = true):allU8 (l ++ r) = true:=by
  induction l with
  | nil => exact h2
  | cons v l ih =>
    cases v <;> simp only [allU8,List.cons_append] at h1 ⊢ <;> try (simp at h1; done)
    rename_i k n
    cases k <;> simp only [allU8] at h1 ⊢ <;> first | exact ih h1 | (simp at h1; done)
theorem allU8_bytesDV (s:List UInt8):allU8 (bytesDV s) = true:=by
  induction s with
  | nil => rfl
  | cons b s ih => exact ih
theorem bytesOf_length {l:List DV} (h:allU8 l = true):(bytesOf l).length = l.length:=by
  induction l with
  | nil => rfl
  | cons v l ih =>
    cases v with
    | int k n => cases k <;> first | (simp [bytesOf,ih h]; done) | (simp [allU8] at h; done)
    | _ => simp [allU8] at h
theorem escTo_range (s:List UInt8) (n:Int) (h1:n ≤ s.length):n ≤ escTo s n ∧ escTo s n ≤ s.length ∧ (0 ≤ escV s n → n + 1 ≤ escTo s n) ∧ escV s n < 256:=by
  have hc:=chr_lt s n
  unfold escTo escV hexTo hexV
  by_cases hn:n < s.length
  · rw [if_pos hn,if_pos hn]
    by_cases c1:chr s n = 34
    · simp only [c1,if_true]; omega
    · by_cases c2:chr s n = 92
      · simp only [if_neg c1,if_pos c2]; omega
      · by_cases c3:chr s n = 110
        · simp only [if_neg c1,if_neg c2,if_pos c3]; omega
        · by_cases c4:chr s n = 120
          · simp only [if_neg c1,if_neg c2,if_neg c3,if_pos c4]
            by_cases g1:hex1 s (n + 1) = true
            · have k1:=of_decide_eq_true (Bool.and_eq_true_iff.1 g1).1
              by_cases g2:hex2 s (n + 1) = true
              · have k2:=of_decide_eq_true (Bool.and_eq_true_iff.1 g2).1
                by_cases g3:escBad (hexB s (n + 1)) = true
                · simp only [g1,g2,g3,if_true]; omega
                · simp only [g1,g2,if_true,if_neg g3]
                  have hb:hexB s (n + 1) < 256:=by
                    unfold escBad at g3
                    simp only [Bool.or_eq_true,Bool.and_eq_true,decide_eq_true_eq] at g3
                    by_cases hh:hexB s (n + 1) = 127
                    · omega
                    · by_cases h32:32 ≤ hexB s (n + 1)
                      · exact absurd (Or.inr ⟨h32,hh⟩) g3
                      · omega
                  omega
              · simp only [if_pos g1,if_neg g2]; omega
            · simp only [if_neg g1]; omega
          · simp only [if_neg c1,if_neg c2,if_neg c3,if_neg c4]; omega
  · rw [if_neg hn,if_neg hn]; omega
def ext43 {R:Type} (K:Ex → St → Option R) (s:List UInt8) (e3 e4 k0 n0:Int) (t0:List UInt8) (r:VR):Option R :=
  PS.cnd r.off
    (K (.exit 0) ⟨slots 148 [(0,.ptr 0 0),(2,.ptr 1 0),(3,.d (.int .i64 e3)),(4,.d (.int .i64 e4))],[.cells [.d (.str s),.d (.int .i64 r.fin)],.cells [.d (.int .i64 k0),.d (.int .i64 n0),.d (.str t0)]]⟩)
    (K .ret ⟨slots 148 [(0,.ptr 0 0),(2,.ptr 1 0),(3,.d (.int .i64 r.pos)),(4,.d (.int .i64 r.err))],[.cells [.d (.str s),.d (.int .i64 r.fin)],.cells [.d (.int .i64 r.kind),.d (.int .i64 r.n),.d (.str r.txt)]]⟩)
theorem fillS_one (z v:DV):(fillS (rep 1 z) [(0,v)]).length = 1:=rfl
set_option maxHeartbeats 2000000 in
theorem loop255 (F:Nat) {R:Type} (s:List UInt8) (e3 e4 k0 n0:Int) (t0:List UInt8) (K:Ex → St → Option R) (hs:s.length ≤ 1000000) :
    ∀ (m:Nat) (a:Int) (l:List DV),0 ≤ a → a ≤ s.length → allU8 l = true → l.length ≤ a → (s.length - a).toNat < m →
      loopK (pcodeK (ctx F [(257,.eff (frameT S257)),(270,.pure S270),(271,.eff (frameT S271))]) L255 (lp Tryz.f255 0)) 2 (allBut 148 [0,2,3,4,5] ++ temps (lp Tryz.f255 0)) (allBut 148 [0,2,3,4]) m
        ⟨slots 148 [(0,.ptr 0 0),(2,.ptr 1 0),(3,.d (.int .i64 e3)),(4,.d (.int .i64 e4)),(5,.own 1 l)],[.cells [.d (.str s),.d (.int .i64 a)],.cells [.d (.int .i64 k0),.d (.int .i64 n0),.d (.str t0)]]⟩ K =
      ext43 K s e3 e4 k0 n0 t0 (textGo s m a (bytesOf l)):=by
  intro m
  induction m with
  | zero => intro a l _ _ _ _ hm; omega
  | succ m ih =>
    intro a l h0 h1 hu hl hm
    rw [loopK_succ,round255_0]
    obtain ⟨k,rfl⟩:=Int.eq_ofNat_of_zero_le h0
    have w1:IntKind.i64.wrap ((k:Int) + 1) = (k:Int) + 1:=wrap64 (by omega) (by omega)
    simp only [Tr.run,rnd,w1,Int.toNat_natCast,List.take_length]
    have step:∀ w:Nat,1 ≤ w → k + w ≤ s.length → ∀ x:Int,x = ((k + w:Nat):Int) → ∀ y:Nat,y = k + w →
        PS.chk (decide ((0:Int) ≤ k)) (PS.chk (decide ((k:Int) ≤ x)) (PS.chk (decide (x ≤ (s.length:Int))) (PS.chk (limit 1 (l.length + (List.drop k (List.take y s)).length))
          (loopK (pcodeK (ctx F [(257,.eff (frameT S257)),(270,.pure S270),(271,.eff (frameT S271))]) L255 (lp Tryz.f255 0)) 2 (allBut 148 [0,2,3,4,5] ++ temps (lp Tryz.f255 0)) (allBut 148 [0,2,3,4]) m
            ⟨slots 148 [(0,.ptr 0 0),(2,.ptr 1 0),(3,.d (.int .i64 e3)),(4,.d (.int .i64 e4)),(5,.own 1 (l ++ bytesDV (List.drop k (List.take y s))))],[.cells [.d (.str s),.d (.int .i64 x)],.cells [.d (.int .i64 k0),.d (.int .i64 n0),.d (.str t0)]]⟩ K)))) =
        ext43 K s e3 e4 k0 n0 t0 (textGo s m ((k:Int) + (w:Int)) (bytesOf l ++ (s.drop k).take w)):=by
      intro w hw1 hw2 x hx y hy
      subst hx hy
      have e:List.drop k (List.take (k + w) s) = (s.drop k).take w:=by rw [List.drop_take]; congr 1; omega
      rw [e]
      have hlen:((s.drop k).take w).length = w:=by simp; omega
      rw [chk_t (by simp only [decide_eq_true_eq]; omega),chk_t (by simp only [decide_eq_true_eq]; omega),chk_t (by simp only [decide_eq_true_eq]; omega),chk_t (by simp only [limit,decide_eq_true_eq,hlen]; omega)]
      rw [ih _ _ (by omega) (by omega) (allU8_append hu (allU8_bytesDV _)) (by rw [List.length_append]; unfold bytesDV; rw [List.length_map,hlen]; omega) (by omega),bytesOf_append,bytesOf_bytesDV]
      rfl
    have hcb:chr s (k:Int) = (byt s k:Int):=chr_byt s k
    by_cases hk:k < s.length
    · have hki:(k:Int) < s.length:=by omega
      rw [cnd_t (b:=decide ((k:Int) < s.length)) (by simpa using hk),chk_t (b:=decide ((0:Int) ≤ k)) (by simp only [decide_eq_true_eq]; omega),chk_t (b:=decide ((k:Int) ≤ s.length)) (by simp only [decide_eq_true_eq]; omega),chk_t (b:=decide ((s.length:Int) ≤ s.length)) (by simp)]
      have hr:runeC (List.drop k s) = ((dec s k).1:Int):=by unfold runeC; rw [dec_drop s k hk]
      have hr2:runeN (List.drop k s) = ((dec s k).2:Int):=by unfold runeN; rw [dec_drop s k hk]
      rw [hr,hr2]
      rcases dec_cases s k hk with ⟨c,hd,hw⟩ | ⟨c,hd,hw⟩ | ⟨c,hd1,hd2,hd3,hw⟩
      · -- a byte below 128
        rw [hd]
        dsimp only
        by_cases q:byt s k = 34
        · rw [cnd_t (b:=decide ((byt s k:Int) = 34)) (by simp [q])]
          by_cases e:(k:Int) + 1 < s.length
          · have hT:textGo s (m + 1) k (bytesOf l) = ⟨0,0,[],k + 1,4,k + 1,false⟩:=by simp [textGo,hki,hcb,q,e]
            rw [cnd_t (b:=decide ((k:Int) + 1 < s.length)) (by simpa using e),hT]
            simp only [ext43,failN,failE,if_pos e]
            rfl
          · have hbl:=bytesOf_length hu
            rw [cnd_f (b:=decide ((k:Int) + 1 < s.length)) (by simpa using e)]
            by_cases g:40 < l.length
            · have hT:textGo s (m + 1) k (bytesOf l) = ⟨0,0,[],0,5,k + 1,false⟩:=by simp [textGo,hki,hcb,q,e,hbl,g]
              rw [cnd_t (b:=decide ((l.length:Int) > 40)) (by simp only [decide_eq_true_eq]; omega),hT]
              rfl
            · have hT:textGo s (m + 1) k (bytesOf l) = ⟨2,0,bytesOf l,k + 1,0,k + 1,false⟩:=by simp [textGo,hki,hcb,q,e,hbl,g]
              rw [cnd_f (b:=decide ((l.length:Int) > 40)) (by simp only [decide_eq_false_iff_not]; omega),chk_t hu,hT]
              rfl
        · have q' : ¬ ((byt s k:Int) = 34):=by omega
          rw [cnd_f (b:=decide ((byt s k:Int) = 34)) (decide_eq_false q')]
          by_cases q2:byt s k = 92
          · rw [cnd_t (b:=decide ((byt s k:Int) = 92)) (by simp [q2]),chk_t (lim_ok (n:=(k:Int) + 1) (m:=(k:Int) + 1 + 3) (by omega) (by omega))]
            obtain ⟨r1,r2,r3,r4⟩:=escTo_range s ((k:Int) + 1) (by omega)
            by_cases g:escV s ((k:Int) + 1) < 0
            · have hT:textGo s (m + 1) k (bytesOf l) = ⟨0,0,[],failN s (escTo s (k + 1)),failE s (escTo s (k + 1)),escTo s (k + 1),false⟩:=by simp [textGo,hki,hcb,q2,g]
              rw [cnd_t (b:=!decide (0 ≤ escV s ((k:Int) + 1))) (by simp only [Bool.not_eq_true',decide_eq_false_iff_not]; omega),hT]
              rfl
            · have hT:textGo s (m + 1) k (bytesOf l) = textGo s m (escTo s (k + 1)) (bytesOf l ++ [UInt8.ofNat (escV s (k + 1)).toNat]):=by simp [textGo,hki,hcb,q2,g]
              rw [cnd_f (b:=!decide (0 ≤ escV s ((k:Int) + 1))) (by simp only [Bool.not_eq_false',decide_eq_true_eq]; omega),hT]
              simp only [fillS_one,if_neg g]
              rw [chk_t (by simp only [limit,decide_eq_true_eq]; omega),ih _ _ (by omega) r2 (allU8_append hu rfl) (by simp; omega) (by omega),bytesOf_append]
              rfl
          · have q2' : ¬ ((byt s k:Int) = 92):=by omega
            rw [cnd_f (b:=decide ((byt s k:Int) = 92)) (decide_eq_false q2')]
            by_cases q3:byt s k < 32
            · have q3' : (byt s k:Int) < 32:=by omega
              have hT:textGo s (m + 1) k (bytesOf l) = ⟨0,0,[],k,4,k,false⟩:=by simp [textGo,hki,hcb,q',q2',q3']
              rw [cnd_t (b:=decide ((byt s k:Int) < 32)) (by simpa using q3'),hT]
              simp only [ext43,failN,failE,if_pos hki]
              rfl
            · have q3' : ¬ (byt s k:Int) < 32:=by omega
              rw [cnd_f (b:=decide ((byt s k:Int) < 32)) (by simpa using q3')]
              by_cases q4:byt s k = 127
              · have hT:textGo s (m + 1) k (bytesOf l) = ⟨0,0,[],k,4,k,false⟩:=by simp [textGo,hki,hcb,q4]
                rw [cnd_t (b:=decide ((byt s k:Int) = 127)) (by simp [q4]),hT]
                simp only [ext43,failN,failE,if_pos hki]
                rfl
              · have q4' : ¬ ((byt s k:Int) = 127):=by omega
                have hT:textGo s (m + 1) k (bytesOf l) = textGo s m ((k:Int) + ((1:Nat):Int)) (bytesOf l ++ (s.drop k).take 1):=by simp [textGo,hki,hcb,q',q2',q3',q4',hw]
                rw [cnd_f (b:=decide ((byt s k:Int) = 127)) (decide_eq_false q4'),cnd_f (b:=decide ((byt s k:Int) = 65533)) (by simp only [decide_eq_false_iff_not]; omega),hT]
                have w2:IntKind.i64.wrap ((k:Int) + ((1:Nat):Int)) = ((k + 1:Nat):Int):=(wrap64 (by omega) (by omega)).trans (by omega)
                rw [w2]
                exact step 1 (by omega) (by omega) _ rfl _ (by omega)
      · -- none
        have q' : ¬ ((byt s k:Int) = 34):=by omega
        have q2' : ¬ ((byt s k:Int) = 92):=by omega
        have hT:textGo s (m + 1) k (bytesOf l) = ⟨0,0,[],k,4,k,false⟩:=by simp [textGo,hki,hcb,q',q2',hw]
        rw [hd,hT]
        dsimp only
        rw [cnd_f (b:=decide (((65533:Nat):Int) = 34)) (by simp),cnd_f (b:=decide (((65533:Nat):Int) = 92)) (by simp),cnd_f (b:=decide (((65533:Nat):Int) < 32)) (by simp),cnd_f (b:=decide (((65533:Nat):Int) = 127)) (by simp),cnd_t (b:=decide (((65533:Nat):Int) = 65533)) (by simp),cnd_t (b:=decide (((1:Nat):Int) < 2)) (by simp)]
        simp only [ext43,failN,failE,if_pos hki]
        rfl
      · -- a longer one
        have q' : ¬ ((byt s k:Int) = 34):=by omega
        have q2' : ¬ ((byt s k:Int) = 92):=by omega
        have q3' : ¬ (byt s k:Int) < 32:=by omega
        have q4' : ¬ ((byt s k:Int) = 127):=by omega
        have q5' : ¬ ((dec s k).2 = 0):=by omega
        have hT:textGo s (m + 1) k (bytesOf l) = textGo s m ((k:Int) + ((dec s k).2:Int)) (bytesOf l ++ (s.drop k).take (dec s k).2):=by simp [textGo,hki,hcb,q',q2',q3',q4',hw,q5']
        have w2:IntKind.i64.wrap ((k:Int) + (((dec s k).2:Nat):Int)) = ((k + (dec s k).2:Nat):Int):=(wrap64 (by omega) (by omega)).trans (by omega)
        rw [w2,hT]
        rw [cnd_f (b:=decide (((dec s k).1:Int) = 34)) (by simp only [decide_eq_false_iff_not]; omega),cnd_f (b:=decide (((dec s k).1:Int) = 92)) (by simp only [decide_eq_false_iff_not]; omega),cnd_f (b:=decide (((dec s k).1:Int) < 32)) (by simp only [decide_eq_false_iff_not]; omega),cnd_f (b:=decide (((dec s k).1:Int) = 127)) (by simp only [decide_eq_false_iff_not]; omega)]
        have fin:=step (dec s k).2 (by omega) (by omega) _ rfl _ (Int.toNat_natCast (k + (dec s k).2))
        by_cases q:(dec s k).1 = 65533
        · rw [cnd_t (b:=decide (((dec s k).1:Int) = 65533)) (by simp only [decide_eq_true_eq]; omega),cnd_f (b:=decide (((dec s k).2:Int) < 2)) (by simp only [decide_eq_false_iff_not]; omega)]
          exact fin
        · rw [cnd_f (b:=decide (((dec s k).1:Int) = 65533)) (by simp only [decide_eq_false_iff_not]; omega)]
          exact fin
    · have hki:¬ (k:Int) < s.length:=by omega
      have hT:textGo s (m + 1) k (bytesOf l) = ⟨0,0,[],s.length,3,k,true⟩:=by simp [textGo,hki]
      rw [cnd_f (b:=decide ((k:Int) < s.length)) (by simpa using hk),hT]
      rfl
end Go.PS
end

section
namespace Go.PS
open Go.Proofs
theorem lps255 (F:Nat) (hF:F = FU):LpsOk (ctx F [(257,.eff (frameT S257)),(270,.pure S270),(271,.eff (frameT S271))]) L255 (loopsOf (body Tryz.f255)):=by
  refine lps_one (c:=lp Tryz.f255 0) rfl (by kernel_rfl) fun R st K r h => ?_
  unfold T255 at h
  cases hs:shape 148 [0,2,3,4,5] st.slots with
  | false => rw [hs] at h; simp [Tr.run] at h
  | true =>
  rw [hs] at h
  simp only [cond_true] at h
  have he:=shape_eq hs
  obtain ⟨sl0,H⟩:=st
  dsimp only at h he ⊢
  split at h
  · rename_i e3 e4 l s a k0 n0 t0 g0 g2 g3 g4 g5
    simp only [List.map_cons,List.map_nil,g0,g2,g3,g4,g5] at he
    subst he
    simp only [Tr.run] at h
    cases hc:(decide (0 ≤ a) && decide (a ≤ s.length) && decide (s.length ≤ big) && allU8 l && decide (l.length ≤ a)) with
    | false => rw [hc] at h; simp at h
    | true =>
    rw [hc] at h
    simp only [Bool.and_eq_true,decide_eq_true_eq] at hc
    obtain ⟨⟨⟨⟨h0,h1⟩,h2⟩,h3⟩,h4⟩:=hc
    unfold big at h2
    refine (loop255 F s e3 e4 k0 n0 t0 K h2 F a l h0 h1 h3 h4 (by rw [hF]; unfold FU; omega)).trans ?_
    rw [← h,hF]
    rfl
  · simp [Tr.run] at h
theorem textGo_off (s:List UInt8):∀ (m:Nat) (a:Int) (out:List UInt8),a ≤ s.length → 0 ≤ a → (s.length - a).toNat < m → (textGo s m a out).off = true → ¬ (textGo s m a out).fin < s.length ∧ (textGo s m a out).kind = 0 ∧ (textGo s m a out).n = 0 ∧ (textGo s m a out).txt = [] ∧ (textGo s m a out).pos = s.length ∧ (textGo s m a out).err = 3:=by
  intro m
  induction m with
  | zero => intro a out _ _ h; omega
  | succ m ih =>
    intro a out h1 h0 hm ho
    unfold textGo at ho ⊢
    by_cases hk:a < s.length
    · simp only [if_pos hk] at ho ⊢
      by_cases q1:chr s a = 34
      · simp only [if_pos q1] at ho
        split at ho
        · simp at ho
        · split at ho <;> simp at ho
      · simp only [if_neg q1] at ho ⊢
        by_cases q2:chr s a = 92
        · simp only [if_pos q2] at ho ⊢
          obtain ⟨r1,r2,r3,r4⟩:=escTo_range s (a + 1) (by omega)
          by_cases q3:escV s (a + 1) < 0
          · simp only [if_pos q3] at ho; simp at ho
          · simp only [if_neg q3] at ho ⊢
            exact ih _ _ r2 (by omega) (by omega) ho
        · simp only [if_neg q2] at ho ⊢
          by_cases q3:width s a = 0 ∨ chr s a < 32 ∨ chr s a = 127
          · simp only [if_pos q3] at ho; simp at ho
          · simp only [if_neg q3] at ho ⊢
            obtain ⟨k,rfl⟩:=Int.eq_ofNat_of_zero_le h0
            have hw:1 ≤ width s k ∧ (k:Int) + width s k ≤ s.length:=by
              rcases dec_cases s k (by omega) with ⟨c,hd,hw⟩ | ⟨c,hd,hw⟩ | ⟨c,hd1,hd2,hd3,hw⟩
              · omega
              · omega
              · omega
            exact ih _ _ (by omega) (by omega) (by omega) ho
    · simp only [if_neg hk]
      simpa using hk
def textR (s:List UInt8):VR:=textGo s FU 1 []
def S255:List PV → List PObj → Tr (Out × List PObj)
  | [.ptr 0 0],[.cells [.d (.str s),.d (.int .i64 _)]] =>
    .chk (decide (1 ≤ s.length) && decide (s.length ≤ big)) (.ok (.ret (textR s).pv,[.cells [.d (.str s),.d (.int .i64 (textR s).fin)]]))
  | _,_ => .no
theorem ok255 (W0:World) (hW:Laid W0):EKOk Tryz.prog W0 255 (.eff (frameT S255)):=by
  refine eff_of (tyOk FU [(257,.eff (frameT S257)),(270,.pure S270),(271,.eff (frameT S271))]) (look_ok (all_cons (ok257 W0) (all_cons (ok270 hW) (all_cons (ok271 W0) all_nil)))) mixed fn255 (lps255 FU rfl) fun args H r h => ?_
  unfold S255 at h
  split at h
  · rename_i s n
    refine (run255 FU s n).trans ?_
    rw [← h]
    simp only [Tr.val_chk,chk_some,Bool.and_eq_true,decide_eq_true_eq] at h
    obtain ⟨⟨h0,h1⟩,_⟩:=h
    simp only [Tr.val_ok,Tr.val_cnd,Tr.val_chk]
    rw [chk_t (b:=decide (1 ≤ s.length) && decide (s.length ≤ big)) (by simp [h0,h1])]
    rw [chk_t (by simp only [Bool.and_eq_true,decide_eq_true_eq]; exact ⟨⟨⟨⟨by omega,by omega⟩,h1⟩,rfl⟩,by omega⟩)]
    have hb:bytesOf [] = []:=rfl
    rw [hb]
    have ho:=textGo_off s FU 1 [] (by omega) (by omega) (by unfold big at h1; unfold FU; omega)
    unfold textR
    cases hof:(textGo s FU 1 []).off with
    | false => rfl
    | true =>
      obtain ⟨o1,o2,o3,o4,o5,o6⟩:=ho hof
      simp only [cnd_tt,VR.pv,o2,o3,o4,o5,o6,failN,failE,if_neg o1]
  · simp [Tr.val_no] at h
end Go.PS
end

section
namespace Go.PS
open Go.Proofs
def digTo (s:List UInt8):Nat → Int → Int
  | 0,a => a
  | m + 1,a => if a < s.length ∧ isDigit (chr s a) = true then digTo s m (a + 1) else a
def numAt (s:List UInt8):Int:=if chr s 0 = 45 then 1 else 0
def numR (s:List UInt8):VR :=
  if ¬ (numAt s < s.length ∧ isDigit (chr s (numAt s)) = true) ∨ (chr s (numAt s) = 48 ∧ numAt s = 1) then ⟨0,0,[],failN s (numAt s),failE s (numAt s),numAt s,false⟩
  else if chr s (numAt s) = 48 then (if 1 < s.length then ⟨0,0,[],1,4,1,false⟩ else ⟨1,0,[],1,0,1,false⟩)
  else if digTo s FU (numAt s + 1) < s.length then ⟨0,0,[],digTo s FU (numAt s + 1),4,digTo s FU (numAt s + 1),false⟩
  else if atoiOk s = true then ⟨1,atoiV s,[],s.length,0,s.length,false⟩ else ⟨0,0,[],0,5,s.length,false⟩
def T256 (st:St):Tr (Ex × St) :=
  bif shape 105 [0,2,3,4] st.slots then
    match gt .undef st.slots 0,gt .undef st.slots 2,gt .undef st.slots 3,gt .undef st.slots 4,st.heap with
    | .ptr 0 0,.ptr 1 0,.d (.int .i64 e3),.d (.int .i64 e4),[.cells [.d (.str s),.d (.int .i64 a)],.cells [.d (.int .i64 k0),.d (.int .i64 n0),.d (.str t0)]] =>
      .chk (decide (0 ≤ a) && decide (a ≤ s.length) && decide (s.length ≤ big)) (.cnd (decide (digTo s FU a < s.length))
        (.ok (.ret,⟨slots 105 [(0,.ptr 0 0),(2,.ptr 1 0),(3,.d (.int .i64 (digTo s FU a))),(4,.d (.int .i64 4))],[.cells [.d (.str s),.d (.int .i64 (digTo s FU a))],.cells [.d (.int .i64 0),.d (.int .i64 0),.d (.str [])]]⟩))
        (.ok (.exit 0,⟨slots 105 [(0,.ptr 0 0),(2,.ptr 1 0),(3,.d (.int .i64 e3)),(4,.d (.int .i64 e4))],[.cells [.d (.str s),.d (.int .i64 s.length)],.cells [.d (.int .i64 k0),.d (.int .i64 n0),.d (.str t0)]]⟩)))
    | _,_,_,_,_ => .no
  else .no
def L256:Lps:=fun i => bif Nat.beq i 12 then some (allBut 105 [0,2,3,4],allBut 105 [0,2,3,4],T256) else none
end Go.PS
end

section
namespace Go.PS
open Go.Proofs
set_option maxRecDepth 100000
theorem round256_0 (F:Nat) {R:Type} (s:List UInt8) (n e3 e4 k0 n0:Int) (t0:List UInt8) (K:Ex → St → Option R) (G:St → Option R):roundK (pcodeK
 (ctx F [(257,.eff (frameT S257)),(272,.eff (frameT S272)),(273,.pure S273)]) L256 (lp Tryz.f256 0)) 2 (allBut 105 [0,2,3,4] ++ temps (lp Tryz.f256 0))
 (allBut 105 [0,2,3,4]) ⟨slots 105 [(0,.ptr 0 0),(2,.ptr 1 0),(3,.d (.int .i64 e3)),(4,.d (.int .i64 e4))],[.cells [.d (.str s),.d (.int .i64 n)],
 .cells [.d (.int .i64 k0),.d (.int .i64 n0),.d (.str t0)]]⟩ K G = Tr.run (.cnd (decide (n < (↑s.length:Int))) (.chk (decide (0 ≤ n) && decide (n < lim))
 (.cnd (hasB ([48,49,50,51,52,53,54,55,56,57]:List UInt8) s n) (.ok (.inr ⟨slots 105 [(0,PV.ptr 0 0),(2,PV.ptr 1 0),(3,.d (.int .i64 e3)),(4,.d
 (.int .i64 e4))],[PObj.cells [.d (.str s),.d (.int .i64 (n + 1))],PObj.cells [.d (.int .i64 k0),.d (.int .i64 n0),.d (.str t0)]]⟩)) (.ok (.inl (Ex.ret,
 ⟨slots 105 [(0,PV.ptr 0 0),(2,PV.ptr 1 0),(3,.d (.int .i64 (failN s n))),(4,.d (.int .i64 (failE s n)))],[PObj.cells [.d (.str s),.d (.int .i64 n)],
 PObj.cells [.d (.int .i64 (0)),.d (.int .i64 (0)),.d (.str [])]]⟩))))) (.ok (.inl (Ex.exit 0,⟨slots 105 [(0,PV.ptr 0 0),(2,PV.ptr 1 0),(3,.d (.int .i64
 e3)),(4,.d (.int .i64 e4))],[PObj.cells [.d (.str s),.d (.int .i64 n)],PObj.cells [.d (.int .i64 k0),.d (.int .i64 n0),.d (.str t0)]]⟩)))) (rnd K G):=by
 kernel_rfl
theorem fn256:FnOk Tryz.prog 256 105 [.cell 2 48,.tmp 3,.tmp 4] (body Tryz.f256):=⟨Tryz.f256,Tryz.func256,bodySome _ (by kernel_rfl),by kernel_rfl,by kernel_rfl,by kernel_rfl,by kernel_rfl⟩
theorem run256 (F:Nat) (s:List UInt8) (n:Int):runE (ctx F [(257,.eff (frameT S257)),(272,.eff (frameT S272)),(273,.pure S273)]) L256 105 [.cell 2
 48,.tmp 3,.tmp 4] (body Tryz.f256) [.ptr 0 0] [.cells [.d (.str s),.d (.int .i64 n)]] = Tr.val (.chk (decide (0 ≤ n) && decide (n < lim)) (.cnd (hasB ([45] :
 List UInt8) s n) (.chk (decide (0 ≤ n + 1) && decide (n + 1 < lim)) (.cnd (hasB ([48,49,50,51,52,53,54,55,56,57]:List UInt8) s (n + 1)) (.cnd (decide
 (chr s (n + 1) = 48)) (.ok ((Out.ret (PV.tup [.d (DV.agg [.int .i64 (0),.int .i64 (0),.str []]),.d (.int .i64 (failN s (IntKind.i64.wrap (n + 1 + 1 - 1)))),
 .d (.int .i64 (failE s (IntKind.i64.wrap (n + 1 + 1 - 1))))]),[PObj.cells [.d (.str s),.d (.int .i64 (IntKind.i64.wrap (n + 1 + 1 - 1)))]]))) (.chk (decide (0
 ≤ n + 1 + 1) && decide (n + 1 + 1 ≤ (↑s.length:Int)) && decide (s.length ≤ big)) (.cnd (decide (digTo s FU (n + 1 + 1) < (↑s.length:Int))) (.ok ((Out.ret
 (PV.tup [.d (DV.agg [.int .i64 (0),.int .i64 (0),.str []]),.d (.int .i64 (digTo s FU (n + 1 + 1))),.d (.int .i64 (4))]),[PObj.cells [.d (.str s),.d (.int
 .i64 (digTo s FU (n + 1 + 1)))]]))) (.chk (decide (s.length ≤ 281474976710656)) (.cnd (atoiOk s) (.ok ((Out.ret (PV.tup [.d (DV.agg [.int .i64 (1),.int .i64
 (atoiV s),.str []]),.d (.int .i64 (↑s.length:Int)),.d (.int .i64 (0))]),[PObj.cells [.d (.str s),.d (.int .i64 (↑s.length:Int))]]))) (.ok ((Out.ret
 (PV.tup [.d (DV.agg [.int .i64 (0),.int .i64 (0),.str []]),.d (.int .i64 (0)),.d (.int .i64 (5))]),[PObj.cells [.d (.str s),.d (.int .i64 (↑s.length :
 Int))]])))))))) (.ok ((Out.ret (PV.tup [.d (DV.agg [.int .i64 (0),.int .i64 (0),.str []]),.d (.int .i64 (failN s (n + 1))),.d (.int .i64 (failE s (n +
 1)))]),[PObj.cells [.d (.str s),.d (.int .i64 (n + 1))]]))))) (.chk (decide (0 ≤ n) && decide (n < lim)) (.cnd (hasB ([48,49,50,51,52,53,54,55,56,57]
 : List UInt8) s n) (.cnd (decide (chr s n = 48)) (.cnd (decide (n + 1 < (↑s.length:Int))) (.ok ((Out.ret (PV.tup [.d (DV.agg [.int .i64 (0),.int .i64 (0),
 .str []]),.d (.int .i64 (failN s (n + 1))),.d (.int .i64 (failE s (n + 1)))]),[PObj.cells [.d (.str s),.d (.int .i64 (n + 1))]]))) (.ok ((Out.ret (PV.tup [.d
 (DV.agg [.int .i64 (1),.int .i64 (0),.str []]),.d (.int .i64 (n + 1)),.d (.int .i64 (0))]),[PObj.cells [.d (.str s),.d (.int .i64 (n + 1))]])))) (.chk
 (decide (0 ≤ n + 1) && decide (n + 1 ≤ (↑s.length:Int)) && decide (s.length ≤ big)) (.cnd (decide (digTo s FU (n + 1) < (↑s.length:Int))) (.ok ((Out.ret
 (PV.tup [.d (DV.agg [.int .i64 (0),.int .i64 (0),.str []]),.d (.int .i64 (digTo s FU (n + 1))),.d (.int .i64 (4))]),[PObj.cells [.d (.str s),.d (.int .i64
 (digTo s FU (n + 1)))]]))) (.chk (decide (s.length ≤ 281474976710656)) (.cnd (atoiOk s) (.ok ((Out.ret (PV.tup [.d (DV.agg [.int .i64 (1),.int .i64 (atoiV s),
 .str []]),.d (.int .i64 (↑s.length:Int)),.d (.int .i64 (0))]),[PObj.cells [.d (.str s),.d (.int .i64 (↑s.length:Int))]]))) (.ok ((Out.ret (PV.tup [.d
 (DV.agg [.int .i64 (0),.int .i64 (0),.str []]),.d (.int .i64 (0)),.d (.int .i64 (5))]),[PObj.cells [.d (.str s),.d (.int .i64 (↑s.length:Int))]]))))))))
 (.ok ((Out.ret (PV.tup [.d (DV.agg [.int .i64 (0),.int .i64 (0),.str []]),.d (.int .i64 (failN s n)),.d (.int .i64 (failE s n))]),[PObj.cells [.d (.str s),
 .d (.int .i64 n)]]))))))):=by kernel_rfl
end Go.PS
end

section
namespace Go.PS
open Go.Proofs
def dig10:List UInt8:=[48,49,50,51,52,53,54,55,56,57]
set_option maxRecDepth 100000 in
theorem idx_dig (b:UInt8):Lib.indexByte dig10 b = if 48 ≤ b.toNat ∧ b.toNat ≤ 57 then (b.toNat:Int) - 48 else -1 :=
  byte_all (p:=fun b => Lib.indexByte dig10 b = if 48 ≤ b.toNat ∧ b.toNat ≤ 57 then (b.toNat:Int) - 48 else -1) (by decide) b
set_option maxRecDepth 100000 in
theorem idx_minus (b:UInt8):Lib.indexByte [45] b = if b.toNat = 45 then 0 else -1 :=
  byte_all (p:=fun b => Lib.indexByte [45] b = if b.toNat = 45 then 0 else -1) (by decide) b
theorem isDigit_iff (b:Int):isDigit b = true ↔ 48 ≤ b ∧ b ≤ 57:=by unfold isDigit; simp
theorem digit_iff (s:List UInt8) (n:Int) (h0:0 ≤ n):hasB [48,49,50,51,52,53,54,55,56,57] s n = decide (n < s.length ∧ isDigit (chr s n) = true):=by
  rw [Bool.eq_iff_iff,hasB_iff,idx_chr,show ([48,49,50,51,52,53,54,55,56,57]:List UInt8) = dig10 from rfl,idx_dig,decide_eq_true_eq,isDigit_iff]
  have hc:chr s n = ((s.getD n.toNat 0).toNat:Int):=rfl
  rw [hc]
  generalize (s.getD n.toNat 0).toNat = b
  split <;> omega
theorem minus_iff (s:List UInt8) (n:Int) (h0:0 ≤ n):hasB [45] s n = decide (n < s.length ∧ chr s n = 45):=by
  rw [Bool.eq_iff_iff,hasB_iff,idx_chr,idx_minus,decide_eq_true_eq]
  have hc:chr s n = ((s.getD n.toNat 0).toNat:Int):=rfl
  rw [hc]
  generalize (s.getD n.toNat 0).toNat = b
  split <;> omega
theorem loop256 (F:Nat) {R:Type} (s:List UInt8) (e3 e4 k0 n0:Int) (t0:List UInt8) (K:Ex → St → Option R) (hs:s.length ≤ 1000000) :
    ∀ (m:Nat) (a:Int),0 ≤ a → a ≤ s.length → (s.length - a).toNat < m →
      loopK (pcodeK (ctx F [(257,.eff (frameT S257)),(272,.eff (frameT S272)),(273,.pure S273)]) L256 (lp Tryz.f256 0)) 2 (allBut 105 [0,2,3,4] ++ temps (lp Tryz.f256 0)) (allBut 105 [0,2,3,4]) m
        ⟨slots 105 [(0,.ptr 0 0),(2,.ptr 1 0),(3,.d (.int .i64 e3)),(4,.d (.int .i64 e4))],[.cells [.d (.str s),.d (.int .i64 a)],.cells [.d (.int .i64 k0),.d (.int .i64 n0),.d (.str t0)]]⟩ K =
      PS.cnd (decide (digTo s m a < s.length))
        (K .ret ⟨slots 105 [(0,.ptr 0 0),(2,.ptr 1 0),(3,.d (.int .i64 (digTo s m a))),(4,.d (.int .i64 4))],[.cells [.d (.str s),.d (.int .i64 (digTo s m a))],.cells [.d (.int .i64 0),.d (.int .i64 0),.d (.str [])]]⟩)
        (K (.exit 0) ⟨slots 105 [(0,.ptr 0 0),(2,.ptr 1 0),(3,.d (.int .i64 e3)),(4,.d (.int .i64 e4))],[.cells [.d (.str s),.d (.int .i64 s.length)],.cells [.d (.int .i64 k0),.d (.int .i64 n0),.d (.str t0)]]⟩):=by
  intro m
  induction m with
  | zero => intro a _ _ hm; omega
  | succ m ih =>
    intro a h0 h1 hm
    rw [loopK_succ,round256_0]
    simp only [Tr.run,rnd,digit_iff s a h0]
    by_cases hk:a < s.length
    · rw [cnd_t (b:=decide (a < (s.length:Int))) (by simpa using hk),chk_t (lim_ok (n:=a) (m:=a) (by omega) (by omega))]
      by_cases d:isDigit (chr s a) = true
      · rw [cnd_t (b:=decide (a < (s.length:Int) ∧ isDigit (chr s a) = true)) (decide_eq_true ⟨hk,d⟩),ih _ (by omega) (by omega) (by omega)]
        simp only [digTo,if_pos (show a < (s.length:Int) ∧ isDigit (chr s a) = true from ⟨hk,d⟩)]
      · rw [cnd_f (b:=decide (a < (s.length:Int) ∧ isDigit (chr s a) = true)) (decide_eq_false fun h => d h.2)]
        simp only [digTo,if_neg (show ¬ (a < (s.length:Int) ∧ isDigit (chr s a) = true) from fun h => d h.2)]
        rw [cnd_t (b:=decide (a < (s.length:Int))) (by simpa using hk)]
        simp only [failN,failE,if_pos hk]
    · have e:a = s.length:=by omega
      rw [cnd_f (b:=decide (a < (s.length:Int))) (by simpa using hk)]
      simp only [digTo,if_neg (show ¬ (a < (s.length:Int) ∧ isDigit (chr s a) = true) from fun h => hk h.1)]
      rw [cnd_f (b:=decide (a < (s.length:Int))) (by simpa using hk),e]
theorem lps256 (F:Nat) (hF:F = FU):LpsOk (ctx F [(257,.eff (frameT S257)),(272,.eff (frameT S272)),(273,.pure S273)]) L256 (loopsOf (body Tryz.f256)):=by
  refine lps_one (c:=lp Tryz.f256 0) rfl (by kernel_rfl) fun R st K r h => ?_
  unfold T256 at h
  cases hs:shape 105 [0,2,3,4] st.slots with
  | false => rw [hs] at h; simp [Tr.run] at h
  | true =>
  rw [hs] at h
  simp only [cond_true] at h
  have he:=shape_eq hs
  obtain ⟨sl0,H⟩:=st
  dsimp only at h he ⊢
  split at h
  · rename_i e3 e4 s a k0 n0 t0 g0 g2 g3 g4
    simp only [List.map_cons,List.map_nil,g0,g2,g3,g4] at he
    subst he
    simp only [Tr.run] at h
    cases hc:(decide (0 ≤ a) && decide (a ≤ s.length) && decide (s.length ≤ big)) with
    | false => rw [hc] at h; simp at h
    | true =>
    rw [hc] at h
    simp only [Bool.and_eq_true,decide_eq_true_eq] at hc
    obtain ⟨⟨h0,h1⟩,h2⟩:=hc
    unfold big at h2
    refine (loop256 F s e3 e4 k0 n0 t0 K h2 F a h0 h1 (by rw [hF]; unfold FU; omega)).trans ?_
    rw [← h,hF]
    rfl
  · simp [Tr.run] at h
def S256:List PV → List PObj → Tr (Out × List PObj)
  | [.ptr 0 0],[.cells [.d (.str s),.d (.int .i64 a)]] =>
    .chk (decide (a = 0) && decide (1 ≤ s.length) && decide (s.length ≤ big)) (.ok (.ret (numR s).pv,[.cells [.d (.str s),.d (.int .i64 (numR s).fin)]]))
  | _,_ => .no
theorem big_ok {a:Int} {s:List UInt8} (h0:0 ≤ a) (h1:a ≤ s.length) (h2:s.length ≤ big):(decide (0 ≤ a) && decide (a ≤ (s.length:Int)) && decide (s.length ≤ big)) = true:=by
  simp only [Bool.and_eq_true,decide_eq_true_eq]
  exact ⟨⟨h0,h1⟩,h2⟩
theorem ok256 (W0:World) (hW:Laid W0):EKOk Tryz.prog W0 256 (.eff (frameT S256)):=by
  refine eff_of (tyOk FU [(257,.eff (frameT S257)),(272,.eff (frameT S272)),(273,.pure S273)]) (look_ok (all_cons (ok257 W0) (all_cons (ok272 W0) (all_cons (ok273 hW) all_nil)))) mixed fn256 (lps256 FU rfl) fun args H r h => ?_
  unfold S256 at h
  split at h
  · rename_i s n
    refine (run256 FU s n).trans ?_
    rw [← h]
    simp only [Tr.val_chk,chk_some,Bool.and_eq_true,decide_eq_true_eq] at h
    obtain ⟨⟨⟨hn,h0⟩,h1⟩,_⟩:=h
    have hbig:s.length ≤ 1000000:=h1
    simp only [Tr.val_ok,Tr.val_cnd,Tr.val_chk]
    rw [chk_t (b:=decide (n = 0) && decide (1 ≤ s.length) && decide (s.length ≤ big)) (by simp [hn,h0,h1])]
    subst hn
    have e1:(0:Int) + 1 = 1:=rfl
    have e2:(0:Int) + 1 + 1 = 2:=rfl
    have w1:IntKind.i64.wrap (2 - 1) = 1:=rfl
    rw [e2,e1,w1,minus_iff s 0 (by omega),digit_iff s 1 (by omega),digit_iff s 0 (by omega)]
    rw [chk_t (lim_ok (n:=(0:Int)) (m:=0) (by omega) (by omega)),chk_t (lim_ok (n:=(1:Int)) (m:=1) (by omega) (by omega))]
    have hl:(0:Int) < s.length:=by omega
    have hat:(decide (s.length ≤ 281474976710656)) = true:=by simp only [decide_eq_true_eq]; omega
    by_cases m:chr s 0 = 45
    · have hA:numAt s = 1:=by simp only [numAt,if_pos m]
      rw [cnd_t (b:=decide ((0:Int) < s.length ∧ chr s 0 = 45)) (decide_eq_true ⟨hl,m⟩)]
      by_cases d:(1:Int) < s.length ∧ isDigit (chr s 1) = true
      · rw [cnd_t (b:=decide ((1:Int) < s.length ∧ isDigit (chr s 1) = true)) (decide_eq_true d)]
        by_cases z:chr s 1 = 48
        · have hR:numR s = ⟨0,0,[],failN s 1,failE s 1,1,false⟩:=by unfold numR; rw [hA,if_pos (Or.inr ⟨z,rfl⟩)]
          rw [cnd_t (b:=decide (chr s 1 = 48)) (decide_eq_true z),hR]
          rfl
        · rw [cnd_f (b:=decide (chr s 1 = 48)) (decide_eq_false z),chk_t (big_ok (a:=(2:Int)) (by omega) (by omega) h1)]
          have hN:¬ (¬ ((1:Int) < s.length ∧ isDigit (chr s 1) = true) ∨ (chr s 1 = 48 ∧ (1:Int) = 1)):=by
            rintro (h | h)
            · exact h d
            · exact z h.1
          by_cases j:digTo s FU 2 < s.length
          · have hR:numR s = ⟨0,0,[],digTo s FU 2,4,digTo s FU 2,false⟩:=by unfold numR; rw [hA,if_neg hN,if_neg z,show (1:Int) + 1 = 2 from rfl,if_pos j]
            rw [cnd_t (b:=decide (digTo s FU 2 < (s.length:Int))) (decide_eq_true j),hR]
            rfl
          · rw [cnd_f (b:=decide (digTo s FU 2 < (s.length:Int))) (decide_eq_false j),chk_t hat]
            by_cases o:atoiOk s = true
            · have hR:numR s = ⟨1,atoiV s,[],s.length,0,s.length,false⟩:=by unfold numR; rw [hA,if_neg hN,if_neg z,show (1:Int) + 1 = 2 from rfl,if_neg j,if_pos o]
              rw [cnd_t o,hR]
              rfl
            · have hR:numR s = ⟨0,0,[],0,5,s.length,false⟩:=by unfold numR; rw [hA,if_neg hN,if_neg z,show (1:Int) + 1 = 2 from rfl,if_neg j,if_neg o]
              rw [cnd_f (by simpa using o),hR]
              rfl
      · have hR:numR s = ⟨0,0,[],failN s 1,failE s 1,1,false⟩:=by unfold numR; rw [hA,if_pos (Or.inl d)]
        rw [cnd_f (b:=decide ((1:Int) < s.length ∧ isDigit (chr s 1) = true)) (decide_eq_false d),hR]
        rfl
    · have hA:numAt s = 0:=by simp only [numAt,if_neg m]
      rw [cnd_f (b:=decide ((0:Int) < s.length ∧ chr s 0 = 45)) (decide_eq_false fun h => m h.2)]
      by_cases d:(0:Int) < s.length ∧ isDigit (chr s 0) = true
      · have hN:¬ (¬ ((0:Int) < s.length ∧ isDigit (chr s 0) = true) ∨ (chr s 0 = 48 ∧ (0:Int) = 1)):=by
          rintro (h | h)
          · exact h d
          · exact absurd h.2 (by omega)
        rw [cnd_t (b:=decide ((0:Int) < s.length ∧ isDigit (chr s 0) = true)) (decide_eq_true d)]
        by_cases z:chr s 0 = 48
        · rw [cnd_t (b:=decide (chr s 0 = 48)) (decide_eq_true z)]
          by_cases q:1 < s.length
          · have hR:numR s = ⟨0,0,[],1,4,1,false⟩:=by unfold numR; rw [hA,if_neg hN,if_pos z,if_pos q]
            have q' : (1:Int) < s.length:=by omega
            rw [cnd_t (b:=decide ((1:Int) < s.length)) (decide_eq_true q'),hR]
            simp only [failN,failE,if_pos q']
            rfl
          · have hR:numR s = ⟨1,0,[],1,0,1,false⟩:=by unfold numR; rw [hA,if_neg hN,if_pos z,if_neg q]
            rw [cnd_f (b:=decide ((1:Int) < s.length)) (decide_eq_false (by omega)),hR]
            rfl
        · rw [cnd_f (b:=decide (chr s 0 = 48)) (decide_eq_false z),chk_t (big_ok (a:=(1:Int)) (by omega) (by omega) h1)]
          by_cases j:digTo s FU 1 < s.length
          · have hR:numR s = ⟨0,0,[],digTo s FU 1,4,digTo s FU 1,false⟩:=by unfold numR; rw [hA,if_neg hN,if_neg z,show (0:Int) + 1 = 1 from rfl,if_pos j]
            rw [cnd_t (b:=decide (digTo s FU 1 < (s.length:Int))) (decide_eq_true j),hR]
            rfl
          · rw [cnd_f (b:=decide (digTo s FU 1 < (s.length:Int))) (decide_eq_false j),chk_t hat]
            by_cases o:atoiOk s = true
            · have hR:numR s = ⟨1,atoiV s,[],s.length,0,s.length,false⟩:=by unfold numR; rw [hA,if_neg hN,if_neg z,show (0:Int) + 1 = 1 from rfl,if_neg j,if_pos o]
              rw [cnd_t o,hR]
              rfl
            · have hR:numR s = ⟨0,0,[],0,5,s.length,false⟩:=by unfold numR; rw [hA,if_neg hN,if_neg z,show (0:Int) + 1 = 1 from rfl,if_neg j,if_neg o]
              rw [cnd_f (by simpa using o),hR]
              rfl
      · have hR:numR s = ⟨0,0,[],failN s 0,failE s 0,0,false⟩:=by unfold numR; rw [hA,if_pos (Or.inl d)]
        rw [cnd_f (b:=decide ((0:Int) < s.length ∧ isDigit (chr s 0) = true)) (decide_eq_false d),hR]
        rfl
  · simp [Tr.val_no] at h
end Go.PS
end

section
namespace Go.PS
open Go.Proofs
theorem drop_cons (s:List UInt8) (k:Nat) (h:k < s.length):s.drop k = s.getD k 0 :: s.drop (k + 1):=by
  rw [List.drop_eq_getElem_cons h]
  simp [h]
theorem chr_k (s:List UInt8) (k:Nat):chr s (k:Int) = ((s.getD k 0).toNat:Int):=by unfold chr; simp
end Go.PS
end

section
namespace Go.PS
open Go.Proofs
theorem chr_fold (s:List UInt8) (m:Int):((s.getD m.toNat 0).toNat:Int) = chr s m:=by cases s <;> exact chr_def _ _
theorem cnd_p {R:Type} {p:Prop} {inst:Decidable p} {x y:Option R} (h:p):PS.cnd (@decide p inst) x y = x:=by rw [decide_eq_true h]; rfl
theorem cnd_n {R:Type} {p:Prop} {inst:Decidable p} {x y:Option R} (h:¬ p):PS.cnd (@decide p inst) x y = y:=by rw [decide_eq_false h]; rfl
theorem chk_p {R:Type} {p:Prop} {inst:Decidable p} {x:Option R} (h:p):PS.chk (@decide p inst) x = x:=by rw [decide_eq_true h]; rfl
theorem digTo_le (s:List UInt8):∀ (m:Nat) (i:Int),i ≤ s.length → digTo s m i ≤ s.length:=by
  intro m
  induction m with
  | zero => intro i h; exact h
  | succ m ih =>
    intro i h
    simp only [digTo]
    split
    · exact ih _ (by omega)
    · exact h
end Go.PS
end

section
namespace Go.PS
open Go.Proofs
def parseR (s:List UInt8):VR :=
  if s.length = 0 then ⟨0,0,[],0,3,0,false⟩
  else if chr s 0 = 34 then textR s
  else if chr s 0 = 45 ∨ isDigit (chr s 0) = true then numR s
  else ⟨0,0,[],0,4,0,false⟩
def S230:List PV → Tr PV
  | [.d (.str s)] => .chk (decide (s.length ≤ big)) (.ok (parseR s).pv)
  | _ => .no
def S110:List PV → Tr PV
  | [.d (.str s),.d (.str p)] => .ok (.d (.bool (decide (p.length ≤ s.length ∧ s.take p.length = p))))
  | _ => .no
end Go.PS
end

section
namespace Go.PS
open Go.Proofs
set_option maxRecDepth 100000
theorem fn177:FnOk Tryz.prog 177 18 [.tmp 4] (body Tryz.f177):=⟨Tryz.f177,Tryz.func177,bodySome _ (by kernel_rfl),by kernel_rfl,by kernel_rfl,by kernel_rfl,by kernel_rfl⟩
theorem run177 (F:Nat) (s p:List UInt8):runP (ctx F []) noL 18 [.tmp 4] (body Tryz.f177) [.d (.str s),.d (.str p)] = Tr.val (.cnd (decide ((↑s.length :
 Int) ≥ (↑p.length:Int))) (.chk (decide ((↑p.length:Int) ≤ (↑s.length:Int))) (.ok (PV.d (.bool (decide (List.drop (↑0:Int).toNat (List.take (↑p.length :
 Int).toNat s) = p)))))) (.ok (PV.d (.bool false)))):=by kernel_rfl
theorem fn110:FnOk Tryz.prog 110 8 [.tmp 4] (body Tryz.f110):=⟨Tryz.f110,Tryz.func110,bodySome _ (by kernel_rfl),by kernel_rfl,by kernel_rfl,by kernel_rfl,by kernel_rfl⟩
theorem run110 (F:Nat) (s p:List UInt8):runP (ctx F [(177,.pure S110)]) noL 8 [.tmp 4] (body Tryz.f110) [.d (.str s),.d (.str p)] = Tr.val (.ok (PV.d
 (.bool (decide (p.length ≤ s.length ∧ List.take p.length s = p))))):=by kernel_rfl
theorem fn230:FnOk Tryz.prog 230 43 [.cell 2 48,.tmp 3,.tmp 4] (body Tryz.f230):=⟨Tryz.f230,Tryz.func230,bodySome _ (by kernel_rfl),by kernel_rfl,by kernel_rfl,by kernel_rfl,by kernel_rfl⟩
theorem run230 (F:Nat) (s:List UInt8):runP (ctx F [(110,.pure S110),(255,.eff (frameT S255)),(256,.eff (frameT S256)),(257,.eff (frameT S257))]) noL
 43 [.cell 2 48,.tmp 3,.tmp 4] (body Tryz.f230) [.d (.str s)] = Tr.val (.cnd (decide (([34]:List UInt8).length ≤ s.length ∧ List.take ([34]:List
 UInt8).length s = ([34]:List UInt8))) (.chk (decide (1 ≤ s.length) && decide (s.length ≤ big)) (.ok (PV.tup [.d (DV.agg [.int .i64 (textR s).kind,.int .i64
 (textR s).n,.str (textR s).txt]),.d (.int .i64 (textR s).pos),.d (.int .i64 (textR s).err)]))) (.cnd (!decide (s = ([]:List UInt8))) (.chk (decide
 (Int.toNat 0 < s.length)) (.cnd (decide ((↑(s.getD (Int.toNat 0) 0).toNat:Int) = 45)) (.chk (decide (0 = 0) && decide (1 ≤ s.length) && decide (s.length ≤
 big)) (.ok (PV.tup [.d (DV.agg [.int .i64 (numR s).kind,.int .i64 (numR s).n,.str (numR s).txt]),.d (.int .i64 (numR s).pos),.d (.int .i64 (numR s).err)])))
 (.chk (decide (Int.toNat 0 < s.length)) (.cnd (decide ((↑(s.getD (Int.toNat 0) 0).toNat:Int) ≥ 48)) (.chk (decide (Int.toNat 0 < s.length)) (.cnd (decide
 ((↑(s.getD (Int.toNat 0) 0).toNat:Int) ≤ 57)) (.chk (decide (0 = 0) && decide (1 ≤ s.length) && decide (s.length ≤ big)) (.ok (PV.tup [.d (DV.agg [.int .i64
 (numR s).kind,.int .i64 (numR s).n,.str (numR s).txt]),.d (.int .i64 (numR s).pos),.d (.int .i64 (numR s).err)]))) (.ok (PV.tup [.d (DV.agg [.int .i64 (0),
 .int .i64 (0),.str []]),.d (.int .i64 (failN s 0)),.d (.int .i64 (failE s 0))])))) (.ok (PV.tup [.d (DV.agg [.int .i64 (0),.int .i64 (0),.str []]),.d (.int
 .i64 (failN s 0)),.d (.int .i64 (failE s 0))])))))) (.ok (PV.tup [.d (DV.agg [.int .i64 (0),.int .i64 (0),.str []]),.d (.int .i64 (failN s 0)),.d (.int .i64
 (failE s 0))])))):=by kernel_rfl
end Go.PS
end

section
namespace Go.PS
open Go.Proofs
theorem ok177 (W0:World):EKOk Tryz.prog W0 177 (.pure S110):=by
  refine pure_of (tyOk 0 []) (look_ok all_nil) mixed fn177 (lpsOk_no _ _) fun args r h => ?_
  unfold S110 at h
  split at h
  · rename_i s p
    refine (run177 0 s p).trans ?_
    rw [← h]
    simp only [Tr.val_ok,Tr.val_cnd,Tr.val_chk]
    by_cases hl:p.length ≤ s.length
    · rw [cnd_p (p:=(s.length:Int) ≥ p.length) (by omega),chk_p (p:=(p.length:Int) ≤ s.length) (by omega)]
      simp [hl]
    · rw [cnd_n (p:=(s.length:Int) ≥ p.length) (by omega)]
      simp [hl]
  · simp [Tr.val_no] at h
theorem ok110 (W0:World):EKOk Tryz.prog W0 110 (.pure S110):=by
  refine pure_of (tyOk 0 [(177,.pure S110)]) (look_ok (all_cons (ok177 W0) all_nil)) mixed fn110 (lpsOk_no _ _) fun args r h => ?_
  unfold S110 at h
  split at h
  · rename_i s p
    exact (run110 0 s p).trans h
  · simp [Tr.val_no] at h
theorem pre_quote (s:List UInt8):(([34]:List UInt8).length ≤ s.length ∧ List.take ([34]:List UInt8).length s = [34]) ↔ (s.length ≠ 0 ∧ chr s 0 = 34):=by
  cases s with
  | nil => simp
  | cons c r =>
    have hc:chr (c :: r) 0 = (c.toNat:Int):=by simp [chr]
    rw [hc]
    have hb:=c.toNat_lt
    constructor
    · rintro ⟨_,h⟩
      simp at h
      subst h
      exact ⟨by simp,rfl⟩
    · rintro ⟨_,h⟩
      have:c = 34:=by
        apply UInt8.toNat_inj.1
        show c.toNat = 34
        omega
      subst this
      simp
theorem ok230 (W0:World) (hW:Laid W0):EKOk Tryz.prog W0 230 (.pure S230):=by
  refine pure_of (tyOk 0 [(110,.pure S110),(255,.eff (frameT S255)),(256,.eff (frameT S256)),(257,.eff (frameT S257))]) (look_ok (all_cons (ok110 W0) (all_cons (ok255 W0 hW) (all_cons (ok256 W0 hW) (all_cons (ok257 W0) all_nil))))) mixed fn230 (lpsOk_no _ _) fun args r h => ?_
  unfold S230 at h
  split at h
  · rename_i s
    refine (run230 0 s).trans ?_
    rw [← h]
    simp only [Tr.val_chk,chk_some,decide_eq_true_eq] at h
    obtain ⟨h1,_⟩:=h
    simp only [Tr.val_ok,Tr.val_cnd,Tr.val_chk,chr_fold]
    rw [chk_p (p:=s.length ≤ big) h1]
    by_cases h0:s.length = 0
    · have he:s = []:=List.eq_nil_of_length_eq_zero h0
      subst he
      rw [cnd_n (by simp)]
      rw [cnd_f (by simp)]
      rfl
    · have z0:Int.toNat 0 < s.length:=by show 0 < s.length; omega
      have hne:¬ s = []:=by rintro rfl; simp at h0
      have hp:(0:Int) < s.length:=by omega
      have hb:(decide (1 ≤ s.length) && decide (s.length ≤ big)) = true:=by simp only [Bool.and_eq_true,decide_eq_true_eq]; exact ⟨by omega,h1⟩
      by_cases q:chr s 0 = 34
      · have hR:parseR s = textR s:=by simp only [parseR,if_neg h0,if_pos q]
        rw [cnd_p ((pre_quote s).2 ⟨h0,q⟩),chk_t hb,hR]
        rfl
      · rw [cnd_n (fun h => q ((pre_quote s).1 h).2),cnd_t (b:=!decide (s = [])) (by simp [hne])]
        simp only [chk_p z0]
        by_cases m:chr s 0 = 45
        · have hR:parseR s = numR s:=by simp only [parseR,if_neg h0,if_neg q,if_pos (Or.inl m:chr s 0 = 45 ∨ isDigit (chr s 0) = true)]
          rw [cnd_p (p:=chr s 0 = 45) m,chk_t (by simp only [Bool.and_eq_true,decide_eq_true_eq]; exact ⟨⟨trivial,by omega⟩,h1⟩),hR]
          rfl
        · rw [cnd_n (p:=chr s 0 = 45) m]
          by_cases d:isDigit (chr s 0) = true
          · have hR:parseR s = numR s:=by simp only [parseR,if_neg h0,if_neg q,if_pos (Or.inr d:chr s 0 = 45 ∨ isDigit (chr s 0) = true)]
            have dd:=(isDigit_iff _).1 d
            rw [cnd_p (p:=chr s 0 ≥ 48) dd.1,cnd_p (p:=chr s 0 ≤ 57) dd.2,chk_t (by simp only [Bool.and_eq_true,decide_eq_true_eq]; exact ⟨⟨trivial,by omega⟩,h1⟩),hR]
            rfl
          · have hR:parseR s = ⟨0,0,[],0,4,0,false⟩:=by simp only [parseR,if_neg h0,if_neg q,if_neg (show ¬ (chr s 0 = 45 ∨ isDigit (chr s 0) = true) by rintro (h | h); exact m h; exact d h)]
            have dd:¬ (48 ≤ chr s 0 ∧ chr s 0 ≤ 57):=fun h => d ((isDigit_iff _).2 h)
            simp only [hR,failN,failE,if_pos hp]
            by_cases g:chr s 0 ≥ 48
            · rw [cnd_p (p:=chr s 0 ≥ 48) g,cnd_n (p:=chr s 0 ≤ 57) (fun h => dd ⟨g,h⟩)]
              rfl
            · rw [cnd_n (p:=chr s 0 ≥ 48) g]
              rfl
  · simp [Tr.val_no] at h
end Go.PS
end

section
namespace Go.PS
open Go.Proofs
def markB (s:List UInt8):Bool :=
  decide (s = [124]) || decide (s = [44]) || decide (s = [40]) || decide (s = [41]) || decide (s = [61]) || decide (s = [33,61]) || decide (s = [60]) || decide (s = [60,61]) || decide (s = [62]) || decide (s = [62,61])
def S210:List PV → Tr PV
  | [.d (.str s)] => .ok (.d (.bool (markB s)))
  | _ => .no
def S228:List PV → Tr PV
  | [.d (.int .u8 b)] => .ok (.tup [.d (.bool (decide (97 ≤ b) && decide (b ≤ 122))),.d (.bool (isDigit b))])
  | _ => .no
end Go.PS
end

section
namespace Go.PS
open Go.Proofs
def allB:List DV → Bool
  | [] => true
  | .int .u8 n :: l => decide (0 ≤ n) && decide (n < 256) && allB l
  | _ => false
theorem allB_cons {v:DV} {l:List DV} (h:allB (v :: l) = true):∃ n:Int,v = .int .u8 n ∧ 0 ≤ n ∧ n < 256 ∧ allB l = true:=by
  cases v with
  | int k n => cases k <;> first | (simp [allB] at h; exact ⟨n,rfl,h.1.1,h.1.2,h.2⟩) | (simp [allB] at h; done)
  | _ => simp [allB] at h
theorem allB_U8:∀ {l:List DV},allB l = true → allU8 l = true
  | [],_ => rfl
  | v :: l,h => by
    obtain ⟨n,rfl,_,_,h⟩:=allB_cons h
    show allU8 l = true
    exact allB_U8 h
theorem allB_drop:∀ {l:List DV} (k:Nat),allB l = true → allB (l.drop k) = true
  | _,0,h => h
  | [],_ + 1,_ => rfl
  | v :: l,k + 1,h => by obtain ⟨n,rfl,_,_,h⟩:=allB_cons h; exact allB_drop k h
theorem allB_take:∀ {l:List DV} (k:Nat),allB l = true → allB (l.take k) = true
  | _,0,_ => rfl
  | [],_ + 1,_ => rfl
  | v :: l,k + 1,h => by
    obtain ⟨n,rfl,h0,h1,h⟩:=allB_cons h
    simp only [List.take_succ_cons,allB,allB_take k h,decide_eq_true h0,decide_eq_true h1,Bool.and_self]
theorem bytesOf_drop:∀ {l:List DV} (k:Nat),allB l = true → bytesOf (l.drop k) = (bytesOf l).drop k
  | _,0,_ => rfl
  | [],_ + 1,_ => rfl
  | v :: l,k + 1,h => by obtain ⟨n,rfl,_,_,h⟩:=allB_cons h; exact bytesOf_drop k h
theorem bytesOf_take:∀ {l:List DV} (k:Nat),allB l = true → bytesOf (l.take k) = (bytesOf l).take k
  | _,0,_ => rfl
  | [],_ + 1,_ => rfl
  | v :: l,k + 1,h => by
    obtain ⟨n,rfl,_,_,h⟩:=allB_cons h
    simp only [List.take_succ_cons,bytesOf,bytesOf_take k h]
theorem atI_byte:∀ {l:List DV} (k:Nat),allB l = true → k < l.length → gt .nili l k = .int .u8 (((bytesOf l).getD k 0).toNat:Int)
  | [],k,_,h => absurd h (by simp)
  | v :: l,0,h,_ => by
    obtain ⟨n,rfl,h0,h1,_⟩:=allB_cons h
    show DV.int .u8 n = .int .u8 ((UInt8.ofNat n.toNat).toNat:Int)
    have:((UInt8.ofNat n.toNat).toNat:Int) = n:=by
      rw [UInt8.toNat_ofNat']; omega
    rw [this]
  | v :: l,k + 1,h,hk => by
    obtain ⟨n,rfl,_,_,h⟩:=allB_cons h
    exact atI_byte k h (by simpa using hk)
theorem atI_chr {l:List DV} (h:allB l = true) {i:Int} (h0:0 ≤ i) (hi:i < l.length):atI l i.toNat 0 = chr (bytesOf l) i:=by
  unfold atI
  rw [atI_byte i.toNat h (by omega)]
  rfl
theorem fits_byte {l:List DV} (h:allB l = true) {i:Int} (h0:0 ≤ i) (hi:i < l.length):fits [.int .u8 0] (gt .nili l i.toNat).cells = true:=by
  rw [atI_byte i.toNat h (by omega)]
  rfl
theorem allB_bytesDV (s:List UInt8):allB (bytesDV s) = true:=by
  induction s with
  | nil => rfl
  | cons b s ih =>
    have:=b.toNat_lt
    show (decide (0 ≤ ((b.toNat:Nat):Int)) && decide (((b.toNat:Nat):Int) < 256) && allB (bytesDV s)) = true
    rw [ih]; simp; omega
end Go.PS
end

section
namespace Go.PS
open Go.Proofs
def smallB (b:Int):Bool:=decide (97 ≤ b) && decide (b ≤ 122)
def runTo (s:List UInt8) (c:Bool):Nat → Int → Int
  | 0,i => i
  | m + 1,i => if i < s.length ∧ (isDigit (chr s i) = true ∨ (c = true ∧ smallB (chr s i) = true)) then runTo s c m (i + 1) else i
def closeTo (s:List UInt8):Nat → Int → Int
  | 0,_ => s.length
  | m + 1,i => if i < s.length then (if chr s i = 34 then i + 1 else if chr s i = 92 then closeTo s m (i + 2) else closeTo s m (i + 1)) else s.length
def pieceN (s:List UInt8):Int :=
  if smallB (chr s 0) = true then runTo s true FU 0
  else if chr s 0 = 34 then closeTo s FU 1
  else if chr s 0 = 45 ∨ chr s 0 = 35 ∨ isDigit (chr s 0) = true then runTo s false FU 1
  else if 2 ≤ s.length ∧ markB (s.take 2) = true then 2
  else if markB (s.take 1) = true then 1 else 0
def S172:List PV → List PObj → Tr (Out × List PObj)
  | [.ptr 0 0,.d (.int .i64 f),.d (.bool c)],[.cells [.d (.slc 1 vs),.d (.int .i64 a)]] =>
    .chk (decide (0 ≤ f) && decide (f ≤ vs.length) && decide (vs.length ≤ big) && allB vs) (.ok (.ret (.d (.int .i64 (runTo (bytesOf vs) c FU f))),[.cells [.d (.slc 1 vs),.d (.int .i64 a)]]))
  | _,_ => .no
def S173:List PV → List PObj → Tr (Out × List PObj)
  | [.ptr 0 0],[.cells [.d (.slc 1 vs),.d (.int .i64 a)]] =>
    .chk (decide (vs.length ≤ big) && allB vs) (.ok (.ret (.d (.int .i64 (closeTo (bytesOf vs) FU 1))),[.cells [.d (.slc 1 vs),.d (.int .i64 a)]]))
  | _,_ => .no
def S101:List PV → List PObj → Tr (Out × List PObj)
  | [.ptr 0 0,.d (.int .i64 n)],[.cells [.d (.slc 1 vs),.d (.int .i64 a)]] =>
    .chk (decide (0 ≤ n) && decide (n ≤ vs.length) && decide (vs.length ≤ big) && allB vs && decide (0 ≤ a) && decide (a ≤ big)) (.ok (.ret (.d (.str ((bytesOf vs).take n.toNat))),[.cells [.d (.slc 1 (vs.drop n.toNat)),.d (.int .i64 (a + n))]]))
  | _,_ => .no
end Go.PS
end

section
namespace Go.PS
open Go.Proofs
def closeB (s:List UInt8):Nat → Int → Bool
  | 0,_ => false
  | m + 1,i => if i < s.length then (if chr s i = 34 then true else if chr s i = 92 then closeB s m (i + 2) else closeB s m (i + 1)) else false
theorem closeTo_end (s:List UInt8):∀ (m:Nat) (i:Int),closeB s m i = false → closeTo s m i = s.length:=by
  intro m
  induction m with
  | zero => intro i _; rfl
  | succ m ih =>
    intro i h
    simp only [closeB] at h
    simp only [closeTo]
    split
    · rename_i h1
      rw [if_pos h1] at h
      split
      · rename_i h2
        rw [if_pos h2] at h
        exact absurd h (by simp)
      · rename_i h2
        rw [if_neg h2] at h
        split
        · rename_i h3
          rw [if_pos h3] at h
          exact ih _ h
        · rename_i h3
          rw [if_neg h3] at h
          exact ih _ h
    · rfl
def T172 (st:St):Tr (Ex × St) :=
  bif shape 42 [0,1,2,7] st.slots then
    match gt .undef st.slots 0,gt .undef st.slots 1,gt .undef st.slots 2,gt .undef st.slots 7,st.heap with
    | .ptr 0 0,.d (.int .i64 f),.d (.bool c),.d (.int .i64 n),[.cells [.d (.slc 1 vs),.d (.int .i64 a)]] =>
      .chk (decide (0 ≤ n) && decide (n ≤ vs.length) && decide (vs.length ≤ big) && allB vs) (.cnd (decide (runTo (bytesOf vs) c FU n < vs.length))
        (.ok (.ret,⟨slots 42 [(0,.ptr 0 0),(1,.d (.int .i64 f)),(2,.d (.bool c)),(6,.d (.int .i64 (runTo (bytesOf vs) c FU n))),(7,.d (.int .i64 (runTo (bytesOf vs) c FU n)))],[.cells [.d (.slc 1 vs),.d (.int .i64 a)]]⟩))
        (.ok (.exit 0,⟨slots 42 [(0,.ptr 0 0),(1,.d (.int .i64 f)),(2,.d (.bool c)),(7,.d (.int .i64 (runTo (bytesOf vs) c FU n)))],[.cells [.d (.slc 1 vs),.d (.int .i64 a)]]⟩)))
    | _,_,_,_,_ => .no
  else .no
def L172:Lps:=fun i => bif Nat.beq i 2 then some (allBut 42 [0,1,2,7],allBut 42 [0,1,2,6,7],T172) else none
def T173 (st:St):Tr (Ex × St) :=
  bif shape 33 [0,3] st.slots then
    match gt .undef st.slots 0,gt .undef st.slots 3,st.heap with
    | .ptr 0 0,.d (.int .i64 n),[.cells [.d (.slc 1 vs),.d (.int .i64 a)]] =>
      .chk (decide (0 ≤ n) && decide (n ≤ vs.length + 2) && decide (vs.length ≤ big) && allB vs) (.cnd (closeB (bytesOf vs) FU n)
        (.ok (.ret,⟨slots 33 [(0,.ptr 0 0),(2,.d (.int .i64 (closeTo (bytesOf vs) FU n)))],[.cells [.d (.slc 1 vs),.d (.int .i64 a)]]⟩))
        (.ok (.exit 0,⟨slots 33 [(0,.ptr 0 0)],[.cells [.d (.slc 1 vs),.d (.int .i64 a)]]⟩)))
    | _,_,_ => .no
  else .no
def L173:Lps:=fun i => bif Nat.beq i 2 then some (allBut 33 [0,3],allBut 33 [0,2],T173) else none
def marksN (s:List UInt8):Int:=if 2 ≤ s.length ∧ markB (s.take 2) = true then 2 else if markB (s.take 1) = true then 1 else 0
structure TR where
  kind:Int
  n:Int
  txt:List UInt8
  pos:Int
  err:Int
def TR.pv (r:TR):PV:=.tup [.d (.agg [.int .i64 r.kind,.str r.txt,.int .i64 r.n,.int .i64 0]),.d (.int .i64 r.pos),.d (.int .i64 r.err)]
def hashN (s:List UInt8):Int:=if chr s 0 = 35 then 1 else 0
def numT (s:List UInt8):TR :=
  if (parseR (s.drop (hashN s).toNat)).err = 5 then ⟨0,0,[],0,5⟩
  else if (parseR (s.drop (hashN s).toNat)).err ≠ 0 then ⟨0,0,[],(parseR (s.drop (hashN s).toNat)).pos + hashN s,11⟩
  else if (parseR (s.drop (hashN s).toNat)).kind = 2 then ⟨3,0,(parseR (s.drop (hashN s).toNat)).txt,0,0⟩
  else if hashN s = 0 then ⟨2,(parseR (s.drop (hashN s).toNat)).n,[],0,0⟩
  else if (parseR (s.drop (hashN s).toNat)).n = 0 then ⟨0,0,[],1,11⟩
  else ⟨4,(parseR (s.drop (hashN s).toNat)).n,[],0,0⟩
def tokR (s:List UInt8):TR :=
  if smallB (chr s 0) = true then (if 12 < s.length then ⟨0,0,[],0,5⟩ else ⟨1,0,s,0,0⟩)
  else if markB s = true then ⟨5,0,s,0,0⟩ else numT s
def S212:List PV → Tr PV
  | [.d (.int .u8 b)] => .ok (.d (.bool (smallB b)))
  | _ => .no
def S213:List PV → Tr PV
  | [.d (.int .u8 b)] => .ok (.d (.bool (isDigit b)))
  | _ => .no
def S254:List PV → Tr PV
  | [.d (.str s),.d (.str p)] => .cnd (decide (p.length ≤ s.length ∧ s.take p.length = p)) (.ok (.tup [.d (.str (s.drop p.length)),.d (.bool true)])) (.ok (.tup [.d (.str s),.d (.bool false)]))
  | _ => .no
def S175:List PV → Tr PV
  | [.d (.str s)] => .chk (decide (1 ≤ s.length) && decide (s.length ≤ big)) (.ok (numT s).pv)
  | _ => .no
def S102:List PV → List PObj → Tr (Out × List PObj)
  | [.ptr 0 0],[.cells [.d (.slc 1 vs),.d (.int .i64 a)]] =>
    .chk (decide (1 ≤ vs.length) && decide (vs.length ≤ big) && allB vs && decide (0 ≤ a) && decide (a ≤ big)) (.cnd (decide (pieceN (bytesOf vs) = 0))
      (.ok (.ret (.tup [.d (.agg [.int .i64 0,.str [],.int .i64 0,.int .i64 0]),.d (.int .i64 0),.d (.int .i64 11)]),[.cells [.d (.slc 1 vs),.d (.int .i64 a)]]))
      (.ok (.ret (tokR ((bytesOf vs).take (pieceN (bytesOf vs)).toNat)).pv,[.cells [.d (.slc 1 (vs.drop (pieceN (bytesOf vs)).toNat)),.d (.int .i64 (a + pieceN (bytesOf vs)))]])))
  | _,_ => .no
def S174:List PV → List PObj → Tr (Out × List PObj)
  | [.ptr 0 0],[.cells [.d (.slc 1 vs),.d (.int .i64 a)]] =>
    .chk (decide (vs.length ≤ big) && allB vs) (.ok (.ret (.d (.int .i64 (marksN (bytesOf vs)))),[.cells [.d (.slc 1 vs),.d (.int .i64 a)]]))
  | _,_ => .no
end Go.PS
end

section
namespace Go.PS
open Go.Proofs
set_option maxRecDepth 100000
theorem fn228:FnOk Tryz.prog 228 16 [.tmp 2,.tmp 3] (body Tryz.f228):=⟨Tryz.f228,Tryz.func228,bodySome _ (by kernel_rfl),by kernel_rfl,by kernel_rfl,by kernel_rfl,by kernel_rfl⟩
theorem run228 (F:Nat) (b:Int):runP (ctx F []) noL 16 [.tmp 2,.tmp 3] (body Tryz.f228) [.d (.int .u8 b)] = Tr.val (.cnd (decide (b ≥ 97)) (.cnd (decide (b
 ≥ 48)) (.ok (PV.tup [.d (.bool (decide (b ≤ 122))),.d (.bool (decide (b ≤ 57)))])) (.ok (PV.tup [.d (.bool (decide (b ≤ 122))),.d (.bool false)]))) (.cnd
 (decide (b ≥ 48)) (.ok (PV.tup [.d (.bool false),.d (.bool (decide (b ≤ 57)))])) (.ok (PV.tup [.d (.bool false),.d (.bool false)])))):=by kernel_rfl
theorem fn212:FnOk Tryz.prog 212 9 [.tmp 2] (body Tryz.f212):=⟨Tryz.f212,Tryz.func212,bodySome _ (by kernel_rfl),by kernel_rfl,by kernel_rfl,by kernel_rfl,by kernel_rfl⟩
theorem run212 (F:Nat) (b:Int):runP (ctx F []) noL 9 [.tmp 2] (body Tryz.f212) [.d (.int .u8 b)] = Tr.val (.cnd (decide (b ≥ 97)) (.ok (PV.d (.bool (decide
 (b ≤ 122))))) (.ok (PV.d (.bool false)))):=by kernel_rfl
theorem fn213:FnOk Tryz.prog 213 9 [.tmp 2] (body Tryz.f213):=⟨Tryz.f213,Tryz.func213,bodySome _ (by kernel_rfl),by kernel_rfl,by kernel_rfl,by kernel_rfl,by kernel_rfl⟩
theorem run213 (F:Nat) (b:Int):runP (ctx F []) noL 9 [.tmp 2] (body Tryz.f213) [.d (.int .u8 b)] = Tr.val (.cnd (decide (b ≥ 48)) (.ok (PV.d (.bool (decide
 (b ≤ 57))))) (.ok (PV.d (.bool false)))):=by kernel_rfl
theorem fn210:FnOk Tryz.prog 210 15 [.tmp 2] (body Tryz.f210):=⟨Tryz.f210,Tryz.func210,bodySome _ (by kernel_rfl),by kernel_rfl,by kernel_rfl,by kernel_rfl,by kernel_rfl⟩
theorem run210 (F:Nat) (s:List UInt8):runP (ctx F []) noL 15 [.tmp 2] (body Tryz.f210) [.d (.str s)] = Tr.val (.cnd (decide (s = ([124]:List UInt8)))
 (.ok (PV.d (.bool true))) (.cnd (decide (s = ([44]:List UInt8))) (.ok (PV.d (.bool true))) (.cnd (decide (s = ([40]:List UInt8))) (.ok (PV.d (.bool true)))
 (.cnd (decide (s = ([41]:List UInt8))) (.ok (PV.d (.bool true))) (.cnd (decide (s = ([61]:List UInt8))) (.ok (PV.d (.bool true))) (.cnd (decide (s = ([33,
 61]:List UInt8))) (.ok (PV.d (.bool true))) (.cnd (decide (s = ([60]:List UInt8))) (.ok (PV.d (.bool true))) (.cnd (decide (s = ([60,61]:List UInt8)))
 (.ok (PV.d (.bool true))) (.cnd (decide (s = ([62]:List UInt8))) (.ok (PV.d (.bool true))) (.cnd (decide (s = ([62,61]:List UInt8))) (.ok (PV.d (.bool
 true))) (.ok (PV.d (.bool false))))))))))))):=by kernel_rfl
theorem fn155:FnOk Tryz.prog 155 15 [.tmp 2] (body Tryz.f155):=⟨Tryz.f155,Tryz.func155,bodySome _ (by kernel_rfl),by kernel_rfl,by kernel_rfl,by kernel_rfl,by kernel_rfl⟩
theorem run155 (F:Nat) (s:List UInt8):runP (ctx F []) noL 15 [.tmp 2] (body Tryz.f155) [.d (.str s)] = Tr.val (.cnd (decide (s = ([124]:List UInt8)))
 (.ok (PV.d (.bool true))) (.cnd (decide (s = ([44]:List UInt8))) (.ok (PV.d (.bool true))) (.cnd (decide (s = ([40]:List UInt8))) (.ok (PV.d (.bool true)))
 (.cnd (decide (s = ([41]:List UInt8))) (.ok (PV.d (.bool true))) (.cnd (decide (s = ([61]:List UInt8))) (.ok (PV.d (.bool true))) (.cnd (decide (s = ([33,
 61]:List UInt8))) (.ok (PV.d (.bool true))) (.cnd (decide (s = ([60]:List UInt8))) (.ok (PV.d (.bool true))) (.cnd (decide (s = ([60,61]:List UInt8)))
 (.ok (PV.d (.bool true))) (.cnd (decide (s = ([62]:List UInt8))) (.ok (PV.d (.bool true))) (.cnd (decide (s = ([62,61]:List UInt8))) (.ok (PV.d (.bool
 true))) (.ok (PV.d (.bool false))))))))))))):=by kernel_rfl
theorem fn254:FnOk Tryz.prog 254 15 [.tmp 4,.tmp 5] (body Tryz.f254):=⟨Tryz.f254,Tryz.func254,bodySome _ (by kernel_rfl),by kernel_rfl,by kernel_rfl,by kernel_rfl,by kernel_rfl⟩
theorem run254 (F:Nat) (s p:List UInt8):runP (ctx F [(177,.pure S110)]) noL 15 [.tmp 4,.tmp 5] (body Tryz.f254) [.d (.str s),.d (.str p)] = Tr.val (.cnd
 (!decide (p.length ≤ s.length ∧ List.take p.length s = p)) (.ok (PV.tup [.d (.str s),.d (.bool false)])) (.chk (decide ((↑p.length:Int) ≤ (↑s.length:Int)))
 (.chk (decide ((↑s.length:Int) ≤ (↑s.length:Int))) (.ok (PV.tup [.d (.str (List.drop (↑p.length:Int).toNat (List.take (↑s.length:Int).toNat s))),.d
 (.bool true)]))))):=by kernel_rfl
end Go.PS
end

section
namespace Go.PS
open Go.Proofs
set_option maxRecDepth 100000
theorem round172_0 (F:Nat) {R:Type} (vs:List DV) (a f n:Int) (c:Bool) (K:Ex → St → Option R) (G:St → Option R):roundK (pcodeK (ctx F [(228,.pure
 S228)]) noL (lp Tryz.f172 0)) 1 (allBut 42 [0,1,2,7] ++ temps (lp Tryz.f172 0)) (allBut 42 [0,1,2,6,7]) ⟨slots 42 [(0,.ptr 0 0),(1,.d (.int .i64 f)),
 (2,.d (.bool c)),(7,.d (.int .i64 n))],[.cells [.d (.slc 1 vs),.d (.int .i64 a)]]⟩ K G = Tr.run (.cnd (decide (n < (↑vs.length:Int))) (.chk (decide (0 ≤
 n)) (.chk (decide (n.toNat < vs.length)) (.chk (fits [.int .u8 0] (gt DV.nili vs n.toNat).cells) (.cnd (!isDigit (atI vs n.toNat 0)) (.cnd (c) (.cnd (!(decide
 (97 ≤ atI vs n.toNat 0) && decide (atI vs n.toNat 0 ≤ 122))) (.ok (.inl (Ex.ret,⟨slots 42 [(0,PV.ptr 0 0),(1,.d (.int .i64 f)),(2,.d (.bool c)),(6,.d
 (.int .i64 n)),(7,.d (.int .i64 n))],[PObj.cells [.d (.slc 1 vs),.d (.int .i64 a)]]⟩))) (.ok (.inr ⟨slots 42 [(0,PV.ptr 0 0),(1,.d (.int .i64 f)),(2,.d
 (.bool c)),(7,.d (.int .i64 (IntKind.i64.wrap (n + 1))))],[PObj.cells [.d (.slc 1 vs),.d (.int .i64 a)]]⟩))) (.ok (.inl (Ex.ret,⟨slots 42 [(0,PV.ptr 0 0),
 (1,.d (.int .i64 f)),(2,.d (.bool c)),(6,.d (.int .i64 n)),(7,.d (.int .i64 n))],[PObj.cells [.d (.slc 1 vs),.d (.int .i64 a)]]⟩)))) (.ok (.inr ⟨slots
 42 [(0,PV.ptr 0 0),(1,.d (.int .i64 f)),(2,.d (.bool c)),(7,.d (.int .i64 (IntKind.i64.wrap (n + 1))))],[PObj.cells [.d (.slc 1 vs),.d (.int .i64
 a)]]⟩)))))) (.ok (.inl (Ex.exit 0,⟨slots 42 [(0,PV.ptr 0 0),(1,.d (.int .i64 f)),(2,.d (.bool c)),(7,.d (.int .i64 n))],[PObj.cells [.d (.slc 1 vs),.d
 (.int .i64 a)]]⟩)))) (rnd K G):=by kernel_rfl
theorem round173_0 (F:Nat) {R:Type} (vs:List DV) (a n:Int) (K:Ex → St → Option R) (G:St → Option R):roundK (pcodeK (ctx F []) noL (lp Tryz.f173 0))
 1 (allBut 33 [0,3] ++ temps (lp Tryz.f173 0)) (allBut 33 [0,2]) ⟨slots 33 [(0,.ptr 0 0),(3,.d (.int .i64 n))],[.cells [.d (.slc 1 vs),.d (.int .i64 a)]]⟩
 K G = Tr.run (.cnd (decide (n < (↑vs.length:Int))) (.chk (decide (0 ≤ n)) (.chk (decide (n.toNat < vs.length)) (.chk (fits [.int .u8 0] (gt DV.nili vs
 n.toNat).cells) (.cnd (decide (atI vs n.toNat 0 = 34)) (.ok (.inl (Ex.ret,⟨slots 33 [(0,PV.ptr 0 0),(2,.d (.int .i64 (IntKind.i64.wrap (n + 1))))],
 [PObj.cells [.d (.slc 1 vs),.d (.int .i64 a)]]⟩))) (.cnd (decide (atI vs n.toNat 0 = 92)) (.ok (.inr ⟨slots 33 [(0,PV.ptr 0 0),(3,.d (.int .i64
 (IntKind.i64.wrap (IntKind.i64.wrap (n + 1) + 1))))],[PObj.cells [.d (.slc 1 vs),.d (.int .i64 a)]]⟩)) (.ok (.inr ⟨slots 33 [(0,PV.ptr 0 0),(3,.d (.int .i64
 (IntKind.i64.wrap (n + 1))))],[PObj.cells [.d (.slc 1 vs),.d (.int .i64 a)]]⟩))))))) (.ok (.inl (Ex.exit 0,⟨slots 33 [(0,PV.ptr 0 0)],[PObj.cells [.d (.slc
 1 vs),.d (.int .i64 a)]]⟩)))) (rnd K G):=by kernel_rfl
theorem fn101:FnOk Tryz.prog 101 32 [.tmp 4] (body Tryz.f101):=⟨Tryz.f101,Tryz.func101,bodySome _ (by kernel_rfl),by kernel_rfl,by kernel_rfl,by kernel_rfl,by kernel_rfl⟩
theorem run101 (F:Nat) (vs:List DV) (a n:Int):runE (ctx F []) noL 32 [.tmp 4] (body Tryz.f101) [.ptr 0 0,.d (.int .i64 n)] [.cells [.d (.slc 1 vs),.d
 (.int .i64 a)]] = Tr.val (.chk (decide (n = n)) (.chk (decide ((↑0:Int) ≤ n)) (.chk (decide (n ≤ (↑vs.length:Int))) (.chk (allU8 (List.drop (↑0:Int).toNat
 (List.take n.toNat vs))) (.chk (decide (0 ≤ n)) (.chk (decide (n ≤ (↑vs.length:Int))) (.chk (decide ((↑vs.length:Int) ≤ (↑vs.length:Int))) (.ok ((Out.ret
 (PV.d (.str (bytesOf (List.drop (↑0:Int).toNat (List.take n.toNat vs))))),[PObj.cells [.d (.slc 1 (List.drop n.toNat (List.take (↑vs.length:Int).toNat
 vs))),.d (.int .i64 (IntKind.i64.wrap (a + n)))]])))))))))):=by kernel_rfl
theorem fn172:FnOk Tryz.prog 172 42 [.tmp 6] (body Tryz.f172):=⟨Tryz.f172,Tryz.func172,bodySome _ (by kernel_rfl),by kernel_rfl,by kernel_rfl,by kernel_rfl,by kernel_rfl⟩
theorem run172 (F:Nat) (vs:List DV) (a f:Int) (c:Bool):runE (ctx F [(228,.pure S228)]) L172 42 [.tmp 6] (body Tryz.f172) [.ptr 0 0,.d (.int .i64 f),
 .d (.bool c)] [.cells [.d (.slc 1 vs),.d (.int .i64 a)]] = Tr.val (.chk (decide (0 ≤ f) && decide (f ≤ (↑vs.length:Int)) && decide (vs.length ≤ big) && allB
 vs) (.cnd (decide (runTo (bytesOf vs) c FU f < (↑vs.length:Int))) (.ok ((Out.ret (PV.d (.int .i64 (runTo (bytesOf vs) c FU f))),[PObj.cells [.d (.slc 1 vs),
 .d (.int .i64 a)]]))) (.ok ((Out.ret (PV.d (.int .i64 (runTo (bytesOf vs) c FU f))),[PObj.cells [.d (.slc 1 vs),.d (.int .i64 a)]]))))):=by kernel_rfl
theorem fn173:FnOk Tryz.prog 173 33 [.tmp 2] (body Tryz.f173):=⟨Tryz.f173,Tryz.func173,bodySome _ (by kernel_rfl),by kernel_rfl,by kernel_rfl,by kernel_rfl,by kernel_rfl⟩
theorem run173 (F:Nat) (vs:List DV) (a:Int):runE (ctx F []) L173 33 [.tmp 2] (body Tryz.f173) [.ptr 0 0] [.cells [.d (.slc 1 vs),.d (.int .i64 a)]] =
 Tr.val (.chk (decide (0 ≤ 1) && decide (1 ≤ (↑vs.length:Int) + 2) && decide (vs.length ≤ big) && allB vs) (.cnd (closeB (bytesOf vs) FU 1) (.ok ((Out.ret (PV.d
 (.int .i64 (closeTo (bytesOf vs) FU 1))),[PObj.cells [.d (.slc 1 vs),.d (.int .i64 a)]]))) (.ok ((Out.ret (PV.d (.int .i64 (↑vs.length:Int))),[PObj.cells
 [.d (.slc 1 vs),.d (.int .i64 a)]]))))):=by kernel_rfl
theorem round174_0 (F:Nat) {R:Type} (vs:List DV) (a n:Int) (K:Ex → St → Option R) (G:St → Option R):roundK (pcodeK (ctx F [(210,.pure S210)]) noL
 (lp Tryz.f174 0)) 1 (allBut 23 [0,3] ++ temps (lp Tryz.f174 0)) (allBut 23 [0,2]) ⟨slots 23 [(0,.ptr 0 0),(3,.d (.int .i64 n))],[.cells [.d (.slc 1 vs),.d
 (.int .i64 a)]]⟩ K G = Tr.run (.cnd (decide (n > 0)) (.chk (decide ((↑0:Int) ≤ n)) (.chk (decide (n ≤ (↑vs.length:Int))) (.chk (allU8 (List.drop (↑0 :
 Int).toNat (List.take n.toNat vs))) (.cnd (markB (bytesOf (List.drop (↑0:Int).toNat (List.take n.toNat vs)))) (.ok (.inl (Ex.ret,⟨slots 23 [(0,PV.ptr 0 0),
 (2,.d (.int .i64 n))],[PObj.cells [.d (.slc 1 vs),.d (.int .i64 a)]]⟩))) (.ok (.inr ⟨slots 23 [(0,PV.ptr 0 0),(3,.d (.int .i64 (IntKind.i64.wrap (n -
 1))))],[PObj.cells [.d (.slc 1 vs),.d (.int .i64 a)]]⟩)))))) (.ok (.inl (Ex.exit 0,⟨slots 23 [(0,PV.ptr 0 0)],[PObj.cells [.d (.slc 1 vs),.d (.int .i64
 a)]]⟩)))) (rnd K G):=by kernel_rfl
theorem fn229:FnOk Tryz.prog 229 11 [.tmp 4,.tmp 5] (body Tryz.f229):=⟨Tryz.f229,Tryz.func229,bodySome _ (by kernel_rfl),by kernel_rfl,by kernel_rfl,by kernel_rfl,by kernel_rfl⟩
theorem run229 (F:Nat) (s p:List UInt8):runP (ctx F [(254,.pure S254)]) noL 11 [.tmp 4,.tmp 5] (body Tryz.f229) [.d (.str s),.d (.str p)] = Tr.val (.cnd
 (decide (p.length ≤ s.length ∧ List.take p.length s = p)) (.ok (PV.tup [.d (.str (List.drop p.length s)),.d (.bool true)])) (.ok (PV.tup [.d (.str s),.d (.bool
 false)]))):=by kernel_rfl
theorem fn175:FnOk Tryz.prog 175 58 [.cell 2 142,.tmp 3,.tmp 4] (body Tryz.f175):=⟨Tryz.f175,Tryz.func175,bodySome _ (by kernel_rfl),by kernel_rfl,by kernel_rfl,by kernel_rfl,by kernel_rfl⟩
theorem run175 (F:Nat) (s:List UInt8):runP (ctx F [(230,.pure S230),(229,.pure S254)]) noL 58 [.cell 2 142,.tmp 3,.tmp 4] (body Tryz.f175) [.d (.str
 s)] = Tr.val (.cnd (decide (([35]:List UInt8).length ≤ s.length ∧ List.take ([35]:List UInt8).length s = ([35]:List UInt8))) (.chk (decide ((List.drop
 ([35]:List UInt8).length s).length ≤ big)) (.cnd (decide ((parseR (List.drop ([35]:List UInt8).length s)).err = 5)) (.ok (PV.tup [.d (DV.agg [.int .i64 (0),
 .str [],.int .i64 (0),.int .i64 (0)]),.d (.int .i64 (0)),.d (.int .i64 (parseR (List.drop ([35]:List UInt8).length s)).err)])) (.cnd (!decide ((parseR
 (List.drop ([35]:List UInt8).length s)).err = 0)) (.ok (PV.tup [.d (DV.agg [.int .i64 (0),.str [],.int .i64 (0),.int .i64 (0)]),.d (.int .i64
 (IntKind.i64.wrap (IntKind.i64.wrap ((parseR (List.drop ([35]:List UInt8).length s)).pos + (↑s.length:Int)) - (↑(List.drop ([35]:List UInt8).length
 s).length:Int)))),.d (.int .i64 (11))])) (.cnd (decide ((parseR (List.drop ([35]:List UInt8).length s)).kind = 2)) (.ok (PV.tup [.d (DV.agg [.int .i64 (3),
 .str (parseR (List.drop ([35]:List UInt8).length s)).txt,.int .i64 (0),.int .i64 (0)]),.d (.int .i64 (0)),.d (.int .i64 (0))])) (.cnd (decide ((parseR
 (List.drop ([35]:List UInt8).length s)).n = 0)) (.ok (PV.tup [.d (DV.agg [.int .i64 (0),.str [],.int .i64 (0),.int .i64 (0)]),.d (.int .i64 (1)),.d (.int
 .i64 (11))])) (.ok (PV.tup [.d (DV.agg [.int .i64 (4),.str [],.int .i64 (parseR (List.drop ([35]:List UInt8).length s)).n,.int .i64 (0)]),.d (.int .i64
 (0)),.d (.int .i64 (0))]))))))) (.chk (decide (s.length ≤ big)) (.cnd (decide ((parseR s).err = 5)) (.ok (PV.tup [.d (DV.agg [.int .i64 (0),.str [],.int .i64
 (0),.int .i64 (0)]),.d (.int .i64 (0)),.d (.int .i64 (parseR s).err)])) (.cnd (!decide ((parseR s).err = 0)) (.ok (PV.tup [.d (DV.agg [.int .i64 (0),.str [],
 .int .i64 (0),.int .i64 (0)]),.d (.int .i64 (IntKind.i64.wrap (IntKind.i64.wrap ((parseR s).pos + (↑s.length:Int)) - (↑s.length:Int)))),.d (.int .i64
 (11))])) (.cnd (decide ((parseR s).kind = 2)) (.ok (PV.tup [.d (DV.agg [.int .i64 (3),.str (parseR s).txt,.int .i64 (0),.int .i64 (0)]),.d (.int .i64 (0)),
 .d (.int .i64 (0))])) (.ok (PV.tup [.d (DV.agg [.int .i64 (2),.str [],.int .i64 (parseR s).n,.int .i64 (0)]),.d (.int .i64 (0)),.d (.int .i64 (0))])))))))
 := by kernel_rfl
theorem fn102:FnOk Tryz.prog 102 66 [.cell 2 142,.tmp 3,.tmp 4] (body Tryz.f102):=⟨Tryz.f102,Tryz.func102,bodySome _ (by kernel_rfl),by kernel_rfl,by kernel_rfl,by kernel_rfl,by kernel_rfl⟩
theorem run102 (F:Nat) (vs:List DV) (a:Int):runE (ctx F [(101,.eff (frameT S101)),(172,.eff (frameT S172)),(173,.eff (frameT S173)),(174,.eff
 (frameT S174)),(175,.pure S175)]) noL 66 [.cell 2 142,.tmp 3,.tmp 4] (body Tryz.f102) [.ptr 0 0] [.cells [.d (.slc 1 vs),.d (.int .i64 a)]] = Tr.val (.chk
 (decide (Int.toNat 0 < vs.length)) (.chk (fits [.int .u8 0] (gt DV.nili vs (Int.toNat 0)).cells) (.cnd (decide (atI vs (Int.toNat 0) 0 ≥ 97)) (.cnd (decide (atI
 vs (Int.toNat 0) 0 ≤ 122)) (.chk (decide (0 ≤ 0) && decide (0 ≤ (↑vs.length:Int)) && decide (vs.length ≤ big) && allB vs) (.chk (decide (0 ≤ runTo (bytesOf vs)
 true FU 0) && decide (runTo (bytesOf vs) true FU 0 ≤ (↑vs.length:Int)) && decide (vs.length ≤ big) && allB vs && decide (0 ≤ a) && decide (a ≤ (↑big:Int)))
 (.cnd (decide ((↑(List.take (runTo (bytesOf vs) true FU 0).toNat (bytesOf vs)).length:Int) > 12)) (.ok ((Out.ret (PV.tup [.d (DV.agg [.int .i64 (0),.str [],
 .int .i64 (0),.int .i64 (0)]),.d (.int .i64 (0)),.d (.int .i64 (5))]),[PObj.cells [.d (.slc 1 (List.drop (runTo (bytesOf vs) true FU 0).toNat vs)),.d (.int
 .i64 (a + runTo (bytesOf vs) true FU 0))]]))) (.ok ((Out.ret (PV.tup [.d (DV.agg [.int .i64 (1),.str (List.take (runTo (bytesOf vs) true FU 0).toNat (bytesOf
 vs)),.int .i64 (0),.int .i64 (0)]),.d (.int .i64 (0)),.d (.int .i64 (0))]),[PObj.cells [.d (.slc 1 (List.drop (runTo (bytesOf vs) true FU 0).toNat vs)),.d
 (.int .i64 (a + runTo (bytesOf vs) true FU 0))]])))))) (.cnd (decide (atI vs (Int.toNat 0) 0 = 34)) (.chk (decide (vs.length ≤ big) && allB vs) (.chk (decide (0
 ≤ closeTo (bytesOf vs) FU 1) && decide (closeTo (bytesOf vs) FU 1 ≤ (↑vs.length:Int)) && decide (vs.length ≤ big) && allB vs && decide (0 ≤ a) && decide (a ≤
 (↑big:Int))) (.chk (decide (1 ≤ (List.take (closeTo (bytesOf vs) FU 1).toNat (bytesOf vs)).length) && decide ((List.take (closeTo (bytesOf vs) FU 1).toNat
 (bytesOf vs)).length ≤ big)) (.ok ((Out.ret (PV.tup [.d (DV.agg [.int .i64 (numT (List.take (closeTo (bytesOf vs) FU 1).toNat (bytesOf vs))).kind,.str (numT
 (List.take (closeTo (bytesOf vs) FU 1).toNat (bytesOf vs))).txt,.int .i64 (numT (List.take (closeTo (bytesOf vs) FU 1).toNat (bytesOf vs))).n,.int .i64 (0)]),
 .d (.int .i64 (numT (List.take (closeTo (bytesOf vs) FU 1).toNat (bytesOf vs))).pos),.d (.int .i64 (numT (List.take (closeTo (bytesOf vs) FU 1).toNat (bytesOf
 vs))).err)]),[PObj.cells [.d (.slc 1 (List.drop (closeTo (bytesOf vs) FU 1).toNat vs)),.d (.int .i64 (a + closeTo (bytesOf vs) FU 1))]])))))) (.cnd (decide
 (atI vs (Int.toNat 0) 0 = 45)) (.chk (decide (0 ≤ 1) && decide (1 ≤ (↑vs.length:Int)) && decide (vs.length ≤ big) && allB vs) (.chk (decide (0 ≤ runTo (bytesOf
 vs) false FU 1) && decide (runTo (bytesOf vs) false FU 1 ≤ (↑vs.length:Int)) && decide (vs.length ≤ big) && allB vs && decide (0 ≤ a) && decide (a ≤ (↑big :
 Int))) (.chk (decide (1 ≤ (List.take (runTo (bytesOf vs) false FU 1).toNat (bytesOf vs)).length) && decide ((List.take (runTo (bytesOf vs) false FU 1).toNat
 (bytesOf vs)).length ≤ big)) (.ok ((Out.ret (PV.tup [.d (DV.agg [.int .i64 (numT (List.take (runTo (bytesOf vs) false FU 1).toNat (bytesOf vs))).kind,.str (numT
 (List.take (runTo (bytesOf vs) false FU 1).toNat (bytesOf vs))).txt,.int .i64 (numT (List.take (runTo (bytesOf vs) false FU 1).toNat (bytesOf vs))).n,.int .i64
 (0)]),.d (.int .i64 (numT (List.take (runTo (bytesOf vs) false FU 1).toNat (bytesOf vs))).pos),.d (.int .i64 (numT (List.take (runTo (bytesOf vs) false FU
 1).toNat (bytesOf vs))).err)]),[PObj.cells [.d (.slc 1 (List.drop (runTo (bytesOf vs) false FU 1).toNat vs)),.d (.int .i64 (a + runTo (bytesOf vs) false FU
 1))]])))))) (.cnd (decide (atI vs (Int.toNat 0) 0 = 35)) (.chk (decide (0 ≤ 1) && decide (1 ≤ (↑vs.length:Int)) && decide (vs.length ≤ big) && allB vs) (.chk
 (decide (0 ≤ runTo (bytesOf vs) false FU 1) && decide (runTo (bytesOf vs) false FU 1 ≤ (↑vs.length:Int)) && decide (vs.length ≤ big) && allB vs && decide (0 ≤
 a) && decide (a ≤ (↑big:Int))) (.chk (decide (1 ≤ (List.take (runTo (bytesOf vs) false FU 1).toNat (bytesOf vs)).length) && decide ((List.take (runTo (bytesOf
 vs) false FU 1).toNat (bytesOf vs)).length ≤ big)) (.ok ((Out.ret (PV.tup [.d (DV.agg [.int .i64 (numT (List.take (runTo (bytesOf vs) false FU 1).toNat (bytesOf
 vs))).kind,.str (numT (List.take (runTo (bytesOf vs) false FU 1).toNat (bytesOf vs))).txt,.int .i64 (numT (List.take (runTo (bytesOf vs) false FU 1).toNat
 (bytesOf vs))).n,.int .i64 (0)]),.d (.int .i64 (numT (List.take (runTo (bytesOf vs) false FU 1).toNat (bytesOf vs))).pos),.d (.int .i64 (numT (List.take
 (runTo (bytesOf vs) false FU 1).toNat (bytesOf vs))).err)]),[PObj.cells [.d (.slc 1 (List.drop (runTo (bytesOf vs) false FU 1).toNat vs)),.d (.int .i64 (a +
 runTo (bytesOf vs) false FU 1))]])))))) (.cnd (decide (atI vs (Int.toNat 0) 0 ≥ 48)) (.cnd (decide (atI vs (Int.toNat 0) 0 ≤ 57)) (.chk (decide (0 ≤ 1) && decide
 (1 ≤ (↑vs.length:Int)) && decide (vs.length ≤ big) && allB vs) (.chk (decide (0 ≤ runTo (bytesOf vs) false FU 1) && decide (runTo (bytesOf vs) false FU 1 ≤
 (↑vs.length:Int)) && decide (vs.length ≤ big) && allB vs && decide (0 ≤ a) && decide (a ≤ (↑big:Int))) (.chk (decide (1 ≤ (List.take (runTo (bytesOf vs)
 false FU 1).toNat (bytesOf vs)).length) && decide ((List.take (runTo (bytesOf vs) false FU 1).toNat (bytesOf vs)).length ≤ big)) (.ok ((Out.ret (PV.tup [.d
 (DV.agg [.int .i64 (numT (List.take (runTo (bytesOf vs) false FU 1).toNat (bytesOf vs))).kind,.str (numT (List.take (runTo (bytesOf vs) false FU 1).toNat
 (bytesOf vs))).txt,.int .i64 (numT (List.take (runTo (bytesOf vs) false FU 1).toNat (bytesOf vs))).n,.int .i64 (0)]),.d (.int .i64 (numT (List.take (runTo
 (bytesOf vs) false FU 1).toNat (bytesOf vs))).pos),.d (.int .i64 (numT (List.take (runTo (bytesOf vs) false FU 1).toNat (bytesOf vs))).err)]),[PObj.cells [.d
 (.slc 1 (List.drop (runTo (bytesOf vs) false FU 1).toNat vs)),.d (.int .i64 (a + runTo (bytesOf vs) false FU 1))]])))))) (.chk (decide (vs.length ≤ big) && allB
 vs) (.cnd (decide (marksN (bytesOf vs) = 0)) (.ok ((Out.ret (PV.tup [.d (DV.agg [.int .i64 (0),.str [],.int .i64 (0),.int .i64 (0)]),.d (.int .i64 (0)),.d
 (.int .i64 (11))]),[PObj.cells [.d (.slc 1 vs),.d (.int .i64 a)]]))) (.chk (decide (0 ≤ marksN (bytesOf vs)) && decide (marksN (bytesOf vs) ≤ (↑vs.length :
 Int)) && decide (vs.length ≤ big) && allB vs && decide (0 ≤ a) && decide (a ≤ (↑big:Int))) (.ok ((Out.ret (PV.tup [.d (DV.agg [.int .i64 (5),.str (List.take
 (marksN (bytesOf vs)).toNat (bytesOf vs)),.int .i64 (0),.int .i64 (0)]),.d (.int .i64 (0)),.d (.int .i64 (0))]),[PObj.cells [.d (.slc 1 (List.drop (marksN
 (bytesOf vs)).toNat vs)),.d (.int .i64 (a + marksN (bytesOf vs)))]]))))))) (.chk (decide (vs.length ≤ big) && allB vs) (.cnd (decide (marksN (bytesOf vs) = 0))
 (.ok ((Out.ret (PV.tup [.d (DV.agg [.int .i64 (0),.str [],.int .i64 (0),.int .i64 (0)]),.d (.int .i64 (0)),.d (.int .i64 (11))]),[PObj.cells [.d (.slc 1
 vs),.d (.int .i64 a)]]))) (.chk (decide (0 ≤ marksN (bytesOf vs)) && decide (marksN (bytesOf vs) ≤ (↑vs.length:Int)) && decide (vs.length ≤ big) && allB vs &&
 decide (0 ≤ a) && decide (a ≤ (↑big:Int))) (.ok ((Out.ret (PV.tup [.d (DV.agg [.int .i64 (5),.str (List.take (marksN (bytesOf vs)).toNat (bytesOf vs)),.int
 .i64 (0),.int .i64 (0)]),.d (.int .i64 (0)),.d (.int .i64 (0))]),[PObj.cells [.d (.slc 1 (List.drop (marksN (bytesOf vs)).toNat vs)),.d (.int .i64 (a +
 marksN (bytesOf vs)))]]))))))))))) (.cnd (decide (atI vs (Int.toNat 0) 0 = 34)) (.chk (decide (vs.length ≤ big) && allB vs) (.chk (decide (0 ≤ closeTo (bytesOf
 vs) FU 1) && decide (closeTo (bytesOf vs) FU 1 ≤ (↑vs.length:Int)) && decide (vs.length ≤ big) && allB vs && decide (0 ≤ a) && decide (a ≤ (↑big:Int))) (.chk
 (decide (1 ≤ (List.take (closeTo (bytesOf vs) FU 1).toNat (bytesOf vs)).length) && decide ((List.take (closeTo (bytesOf vs) FU 1).toNat (bytesOf vs)).length ≤
 big)) (.ok ((Out.ret (PV.tup [.d (DV.agg [.int .i64 (numT (List.take (closeTo (bytesOf vs) FU 1).toNat (bytesOf vs))).kind,.str (numT (List.take (closeTo
 (bytesOf vs) FU 1).toNat (bytesOf vs))).txt,.int .i64 (numT (List.take (closeTo (bytesOf vs) FU 1).toNat (bytesOf vs))).n,.int .i64 (0)]),.d (.int .i64 (numT
 (List.take (closeTo (bytesOf vs) FU 1).toNat (bytesOf vs))).pos),.d (.int .i64 (numT (List.take (closeTo (bytesOf vs) FU 1).toNat (bytesOf vs))).err)]),
 [PObj.cells [.d (.slc 1 (List.drop (closeTo (bytesOf vs) FU 1).toNat vs)),.d (.int .i64 (a + closeTo (bytesOf vs) FU 1))]])))))) (.cnd (decide (atI vs
 (Int.toNat 0) 0 = 45)) (.chk (decide (0 ≤ 1) && decide (1 ≤ (↑vs.length:Int)) && decide (vs.length ≤ big) && allB vs) (.chk (decide (0 ≤ runTo (bytesOf vs)
 false FU 1) && decide (runTo (bytesOf vs) false FU 1 ≤ (↑vs.length:Int)) && decide (vs.length ≤ big) && allB vs && decide (0 ≤ a) && decide (a ≤ (↑big:Int)))
 (.chk (decide (1 ≤ (List.take (runTo (bytesOf vs) false FU 1).toNat (bytesOf vs)).length) && decide ((List.take (runTo (bytesOf vs) false FU 1).toNat (bytesOf
 vs)).length ≤ big)) (.ok ((Out.ret (PV.tup [.d (DV.agg [.int .i64 (numT (List.take (runTo (bytesOf vs) false FU 1).toNat (bytesOf vs))).kind,.str (numT
 (List.take (runTo (bytesOf vs) false FU 1).toNat (bytesOf vs))).txt,.int .i64 (numT (List.take (runTo (bytesOf vs) false FU 1).toNat (bytesOf vs))).n,.int .i64
 (0)]),.d (.int .i64 (numT (List.take (runTo (bytesOf vs) false FU 1).toNat (bytesOf vs))).pos),.d (.int .i64 (numT (List.take (runTo (bytesOf vs) false FU
 1).toNat (bytesOf vs))).err)]),[PObj.cells [.d (.slc 1 (List.drop (runTo (bytesOf vs) false FU 1).toNat vs)),.d (.int .i64 (a + runTo (bytesOf vs) false FU
 1))]])))))) (.cnd (decide (atI vs (Int.toNat 0) 0 = 35)) (.chk (decide (0 ≤ 1) && decide (1 ≤ (↑vs.length:Int)) && decide (vs.length ≤ big) && allB vs) (.chk
 (decide (0 ≤ runTo (bytesOf vs) false FU 1) && decide (runTo (bytesOf vs) false FU 1 ≤ (↑vs.length:Int)) && decide (vs.length ≤ big) && allB vs && decide (0 ≤
 a) && decide (a ≤ (↑big:Int))) (.chk (decide (1 ≤ (List.take (runTo (bytesOf vs) false FU 1).toNat (bytesOf vs)).length) && decide ((List.take (runTo (bytesOf
 vs) false FU 1).toNat (bytesOf vs)).length ≤ big)) (.ok ((Out.ret (PV.tup [.d (DV.agg [.int .i64 (numT (List.take (runTo (bytesOf vs) false FU 1).toNat (bytesOf
 vs))).kind,.str (numT (List.take (runTo (bytesOf vs) false FU 1).toNat (bytesOf vs))).txt,.int .i64 (numT (List.take (runTo (bytesOf vs) false FU 1).toNat
 (bytesOf vs))).n,.int .i64 (0)]),.d (.int .i64 (numT (List.take (runTo (bytesOf vs) false FU 1).toNat (bytesOf vs))).pos),.d (.int .i64 (numT (List.take
 (runTo (bytesOf vs) false FU 1).toNat (bytesOf vs))).err)]),[PObj.cells [.d (.slc 1 (List.drop (runTo (bytesOf vs) false FU 1).toNat vs)),.d (.int .i64 (a +
 runTo (bytesOf vs) false FU 1))]])))))) (.cnd (decide (atI vs (Int.toNat 0) 0 ≥ 48)) (.cnd (decide (atI vs (Int.toNat 0) 0 ≤ 57)) (.chk (decide (0 ≤ 1) && decide
 (1 ≤ (↑vs.length:Int)) && decide (vs.length ≤ big) && allB vs) (.chk (decide (0 ≤ runTo (bytesOf vs) false FU 1) && decide (runTo (bytesOf vs) false FU 1 ≤
 (↑vs.length:Int)) && decide (vs.length ≤ big) && allB vs && decide (0 ≤ a) && decide (a ≤ (↑big:Int))) (.chk (decide (1 ≤ (List.take (runTo (bytesOf vs)
 false FU 1).toNat (bytesOf vs)).length) && decide ((List.take (runTo (bytesOf vs) false FU 1).toNat (bytesOf vs)).length ≤ big)) (.ok ((Out.ret (PV.tup [.d
 (DV.agg [.int .i64 (numT (List.take (runTo (bytesOf vs) false FU 1).toNat (bytesOf vs))).kind,.str (numT (List.take (runTo (bytesOf vs) false FU 1).toNat
 (bytesOf vs))).txt,.int .i64 (numT (List.take (runTo (bytesOf vs) false FU 1).toNat (bytesOf vs))).n,.int .i64 (0)]),.d (.int .i64 (numT (List.take (runTo
 (bytesOf vs) false FU 1).toNat (bytesOf vs))).pos),.d (.int .i64 (numT (List.take (runTo (bytesOf vs) false FU 1).toNat (bytesOf vs))).err)]),[PObj.cells [.d
 (.slc 1 (List.drop (runTo (bytesOf vs) false FU 1).toNat vs)),.d (.int .i64 (a + runTo (bytesOf vs) false FU 1))]])))))) (.chk (decide (vs.length ≤ big) && allB
 vs) (.cnd (decide (marksN (bytesOf vs) = 0)) (.ok ((Out.ret (PV.tup [.d (DV.agg [.int .i64 (0),.str [],.int .i64 (0),.int .i64 (0)]),.d (.int .i64 (0)),.d
 (.int .i64 (11))]),[PObj.cells [.d (.slc 1 vs),.d (.int .i64 a)]]))) (.chk (decide (0 ≤ marksN (bytesOf vs)) && decide (marksN (bytesOf vs) ≤ (↑vs.length :
 Int)) && decide (vs.length ≤ big) && allB vs && decide (0 ≤ a) && decide (a ≤ (↑big:Int))) (.ok ((Out.ret (PV.tup [.d (DV.agg [.int .i64 (5),.str (List.take
 (marksN (bytesOf vs)).toNat (bytesOf vs)),.int .i64 (0),.int .i64 (0)]),.d (.int .i64 (0)),.d (.int .i64 (0))]),[PObj.cells [.d (.slc 1 (List.drop (marksN
 (bytesOf vs)).toNat vs)),.d (.int .i64 (a + marksN (bytesOf vs)))]]))))))) (.chk (decide (vs.length ≤ big) && allB vs) (.cnd (decide (marksN (bytesOf vs) = 0))
 (.ok ((Out.ret (PV.tup [.d (DV.agg [.int .i64 (0),.str [],.int .i64 (0),.int .i64 (0)]),.d (.int .i64 (0)),.d (.int .i64 (11))]),[PObj.cells [.d (.slc 1
 vs),.d (.int .i64 a)]]))) (.chk (decide (0 ≤ marksN (bytesOf vs)) && decide (marksN (bytesOf vs) ≤ (↑vs.length:Int)) && decide (vs.length ≤ big) && allB vs &&
 decide (0 ≤ a) && decide (a ≤ (↑big:Int))) (.ok ((Out.ret (PV.tup [.d (DV.agg [.int .i64 (5),.str (List.take (marksN (bytesOf vs)).toNat (bytesOf vs)),.int
 .i64 (0),.int .i64 (0)]),.d (.int .i64 (0)),.d (.int .i64 (0))]),[PObj.cells [.d (.slc 1 (List.drop (marksN (bytesOf vs)).toNat vs)),.d (.int .i64 (a +
 marksN (bytesOf vs)))]]))))))))))))):=by kernel_rfl
end Go.PS
end

section
namespace Go.PS
open Go.Proofs
theorem ok228 (W0:World):EKOk Tryz.prog W0 228 (.pure S228):=by
  refine pure_of (tyOk 0 []) (look_ok all_nil) mixed fn228 (lpsOk_no _ _) fun args r h => ?_
  unfold S228 at h
  split at h
  · rename_i b
    refine (run228 0 b).trans ?_
    rw [← h]
    simp only [Tr.val_ok,Tr.val_cnd,cnd_dec]
    by_cases h1:97 ≤ b <;> by_cases h2:48 ≤ b <;> simp [isDigit,h1,h2]
  · simp [Tr.val_no] at h
theorem ok212 (W0:World):EKOk Tryz.prog W0 212 (.pure S212):=by
  refine pure_of (tyOk 0 []) (look_ok all_nil) mixed fn212 (lpsOk_no _ _) fun args r h => ?_
  unfold S212 at h
  split at h
  · rename_i b
    refine (run212 0 b).trans ?_
    rw [← h]
    simp only [Tr.val_ok,Tr.val_cnd,cnd_dec]
    by_cases h1:97 ≤ b <;> simp [smallB,h1]
  · simp [Tr.val_no] at h
theorem ok213 (W0:World):EKOk Tryz.prog W0 213 (.pure S213):=by
  refine pure_of (tyOk 0 []) (look_ok all_nil) mixed fn213 (lpsOk_no _ _) fun args r h => ?_
  unfold S213 at h
  split at h
  · rename_i b
    refine (run213 0 b).trans ?_
    rw [← h]
    simp only [Tr.val_ok,Tr.val_cnd,cnd_dec]
    by_cases h1:48 ≤ b <;> simp [isDigit,h1]
  · simp [Tr.val_no] at h
theorem ok210 (W0:World):EKOk Tryz.prog W0 210 (.pure S210):=by
  refine pure_of (tyOk 0 []) (look_ok all_nil) mixed fn210 (lpsOk_no _ _) fun args r h => ?_
  unfold S210 at h
  split at h
  · rename_i s
    refine (run210 0 s).trans ?_
    rw [← h]
    simp only [Tr.val_ok,Tr.val_cnd,cnd_dec]
    unfold markB
    repeat' split
    all_goals simp [*]
  · simp [Tr.val_no] at h
theorem ok155 (W0:World):EKOk Tryz.prog W0 155 (.pure S210):=by
  refine pure_of (tyOk 0 []) (look_ok all_nil) mixed fn155 (lpsOk_no _ _) fun args r h => ?_
  unfold S210 at h
  split at h
  · rename_i s
    refine (run155 0 s).trans ?_
    rw [← h]
    simp only [Tr.val_ok,Tr.val_cnd,cnd_dec]
    unfold markB
    repeat' split
    all_goals simp [*]
  · simp [Tr.val_no] at h
theorem ok254 (W0:World):EKOk Tryz.prog W0 254 (.pure S254):=by
  refine pure_of (tyOk 0 [(177,.pure S110)]) (look_ok (all_cons (ok177 W0) all_nil)) mixed fn254 (lpsOk_no _ _) fun args r h => ?_
  unfold S254 at h
  split at h
  · rename_i s p
    refine (run254 0 s p).trans ?_
    rw [← h]
    simp only [Tr.val_ok,Tr.val_cnd,Tr.val_chk]
    by_cases g:p.length ≤ s.length ∧ s.take p.length = p
    · rw [cnd_f (b:=!decide (p.length ≤ s.length ∧ s.take p.length = p)) (by rw [decide_eq_true g]; rfl),cnd_p g,chk_p (by omega),chk_p (by omega)]
      simp
    · rw [cnd_t (b:=!decide (p.length ≤ s.length ∧ s.take p.length = p)) (by rw [decide_eq_false g]; rfl),cnd_n g]
  · simp [Tr.val_no] at h
theorem ok101 (W0:World):EKOk Tryz.prog W0 101 (.eff (frameT S101)):=by
  refine eff_of (tyOk 0 []) (look_ok all_nil) mixed fn101 (lpsOk_no _ _) fun args H r h => ?_
  unfold S101 at h
  split at h
  · rename_i n vs a
    refine (run101 0 vs a n).trans ?_
    rw [← h]
    simp only [Tr.val_chk,chk_some,Bool.and_eq_true,decide_eq_true_eq] at h
    obtain ⟨⟨⟨⟨⟨⟨h0,h1⟩,h2⟩,h3⟩,h4⟩,h5⟩,_⟩:=h
    unfold big at h2 h5
    simp only [Tr.val_ok,Tr.val_cnd,Tr.val_chk]
    rw [chk_t (b:=decide (0 ≤ n) && decide (n ≤ vs.length) && decide (vs.length ≤ big) && allB vs && decide (0 ≤ a) && decide (a ≤ big)) (by unfold big; simp only [Bool.and_eq_true,decide_eq_true_eq]; exact ⟨⟨⟨⟨⟨h0,h1⟩,h2⟩,h3⟩,h4⟩,h5⟩)]
    have e0:List.drop (Int.toNat 0) (List.take n.toNat vs) = List.take n.toNat vs:=rfl
    have e1:List.take ((vs.length:Nat):Int).toNat vs = vs:=by simp
    have e2:IntKind.i64.wrap (a + n) = a + n:=wrap64 (by omega) (by omega)
    rw [e0,e1,e2,chk_p (p:=True) trivial,chk_p (by simpa using h0),chk_p h1,chk_t (allB_U8 (allB_take _ h3)),chk_p h0,chk_p h1,chk_p (by omega),bytesOf_take _ h3]
  · simp [Tr.val_no] at h
end Go.PS
end

section
namespace Go.PS
open Go.Proofs
theorem loop172 (F:Nat) {R:Type} (vs:List DV) (a f:Int) (c:Bool) (K:Ex → St → Option R) (hb:allB vs = true) (hs:vs.length ≤ 1000000) :
    ∀ (m:Nat) (n:Int),0 ≤ n → n ≤ vs.length → (vs.length - n).toNat < m →
      loopK (pcodeK (ctx F [(228,.pure S228)]) noL (lp Tryz.f172 0)) 1 (allBut 42 [0,1,2,7] ++ temps (lp Tryz.f172 0)) (allBut 42 [0,1,2,6,7]) m
        ⟨slots 42 [(0,.ptr 0 0),(1,.d (.int .i64 f)),(2,.d (.bool c)),(7,.d (.int .i64 n))],[.cells [.d (.slc 1 vs),.d (.int .i64 a)]]⟩ K =
      PS.cnd (decide (runTo (bytesOf vs) c m n < vs.length))
        (K .ret ⟨slots 42 [(0,.ptr 0 0),(1,.d (.int .i64 f)),(2,.d (.bool c)),(6,.d (.int .i64 (runTo (bytesOf vs) c m n))),(7,.d (.int .i64 (runTo (bytesOf vs) c m n)))],[.cells [.d (.slc 1 vs),.d (.int .i64 a)]]⟩)
        (K (.exit 0) ⟨slots 42 [(0,.ptr 0 0),(1,.d (.int .i64 f)),(2,.d (.bool c)),(7,.d (.int .i64 (runTo (bytesOf vs) c m n)))],[.cells [.d (.slc 1 vs),.d (.int .i64 a)]]⟩):=by
  intro m
  induction m with
  | zero => intro n _ _ hm; omega
  | succ m ih =>
    intro n h0 h1 hm
    rw [loopK_succ,round172_0]
    have w:IntKind.i64.wrap (n + 1) = n + 1:=wrap64 (by omega) (by omega)
    have hl:=bytesOf_length (allB_U8 hb)
    simp only [Tr.run,rnd,w]
    by_cases hk:n < vs.length
    · rw [cnd_p hk,chk_p h0,chk_p (by omega),chk_t (fits_byte hb h0 hk),atI_chr hb h0 hk]
      by_cases d:isDigit (chr (bytesOf vs) n) = true
      · rw [cnd_f (by simp [d]),ih _ (by omega) (by omega) (by omega)]
        have e:runTo (bytesOf vs) c (m + 1) n = runTo (bytesOf vs) c m (n + 1):=by
          simp only [runTo]; rw [if_pos ⟨by omega,Or.inl d⟩]
        rw [e]
      · rw [cnd_t (b:=!isDigit (chr (bytesOf vs) n)) (by simpa using d)]
        cases hc:c with
        | false =>
          have e:runTo (bytesOf vs) false (m + 1) n = n:=by
            simp only [runTo]; rw [if_neg (by rintro ⟨_,h | h⟩; exact d h; simp at h)]
          rw [e,cnd_p hk,cnd_ff]
        | true =>
          rw [cnd_tt]
          by_cases l:smallB (chr (bytesOf vs) n) = true
          · have e:runTo (bytesOf vs) true (m + 1) n = runTo (bytesOf vs) true m (n + 1):=by
              simp only [runTo]; rw [if_pos ⟨by omega,Or.inr ⟨by simp,l⟩⟩]
            have:=ih (n + 1) (by omega) (by omega) (by omega)
            rw [hc] at this
            rw [cnd_f (by unfold smallB at l; rw [l]; rfl),this,e]
          · have e:runTo (bytesOf vs) true (m + 1) n = n:=by
              simp only [runTo]; rw [if_neg (by rintro ⟨_,h | h⟩; exact d h; exact l h.2)]
            rw [e,cnd_p hk,cnd_t (by unfold smallB at l; rw [Bool.not_eq_true] at l; rw [l]; rfl)]
    · have e:runTo (bytesOf vs) c (m + 1) n = n:=by
        simp only [runTo]; rw [if_neg (by rintro ⟨h,_⟩; omega)]
      rw [cnd_n hk,e,cnd_n hk]
theorem lps172 (F:Nat) (hF:F = FU):LpsOk (ctx F [(228,.pure S228)]) L172 (loopsOf (body Tryz.f172)):=by
  refine lps_one (c:=lp Tryz.f172 0) rfl (by kernel_rfl) fun R st K r h => ?_
  unfold T172 at h
  cases hs:shape 42 [0,1,2,7] st.slots with
  | false => rw [hs] at h; simp [Tr.run] at h
  | true =>
  rw [hs] at h
  simp only [cond_true] at h
  have he:=shape_eq hs
  obtain ⟨sl0,H⟩:=st
  dsimp only at h he ⊢
  split at h
  · rename_i f c n vs a g0 g1 g2 g7
    simp only [List.map_cons,List.map_nil,g0,g1,g2,g7] at he
    subst he
    simp only [Tr.run] at h
    cases hc:(decide (0 ≤ n) && decide (n ≤ vs.length) && decide (vs.length ≤ big) && allB vs) with
    | false => rw [hc] at h; simp at h
    | true =>
    rw [hc] at h
    simp only [Bool.and_eq_true,decide_eq_true_eq] at hc
    obtain ⟨⟨⟨h0,h1⟩,h2⟩,h3⟩:=hc
    unfold big at h2
    refine (loop172 F vs a f c K h3 h2 F n h0 h1 (by rw [hF]; unfold FU; omega)).trans ?_
    rw [← h,hF]
    rfl
  · simp [Tr.run] at h
theorem loop173 (F:Nat) {R:Type} (vs:List DV) (a:Int) (K:Ex → St → Option R) (hb:allB vs = true) (hs:vs.length ≤ 1000000) :
    ∀ (m:Nat) (n:Int),0 ≤ n → n ≤ vs.length + 2 → (vs.length + 2 - n).toNat < m →
      loopK (pcodeK (ctx F []) noL (lp Tryz.f173 0)) 1 (allBut 33 [0,3] ++ temps (lp Tryz.f173 0)) (allBut 33 [0,2]) m
        ⟨slots 33 [(0,.ptr 0 0),(3,.d (.int .i64 n))],[.cells [.d (.slc 1 vs),.d (.int .i64 a)]]⟩ K =
      PS.cnd (closeB (bytesOf vs) m n)
        (K .ret ⟨slots 33 [(0,.ptr 0 0),(2,.d (.int .i64 (closeTo (bytesOf vs) m n)))],[.cells [.d (.slc 1 vs),.d (.int .i64 a)]]⟩)
        (K (.exit 0) ⟨slots 33 [(0,.ptr 0 0)],[.cells [.d (.slc 1 vs),.d (.int .i64 a)]]⟩):=by
  intro m
  induction m with
  | zero => intro n _ _ hm; omega
  | succ m ih =>
    intro n h0 h1 hm
    rw [loopK_succ,round173_0]
    have w:IntKind.i64.wrap (n + 1) = n + 1:=wrap64 (by omega) (by omega)
    have w2:IntKind.i64.wrap (n + 1 + 1) = n + 2:=(wrap64 (x:=n + 1 + 1) (by omega) (by omega)).trans (by omega)
    have hl:=bytesOf_length (allB_U8 hb)
    simp only [Tr.run,rnd,w,w2,closeB,closeTo]
    by_cases hk:n < vs.length
    · have hk' : n < ((bytesOf vs).length:Int):=by omega
      simp only [if_pos hk']
      rw [cnd_p hk,chk_p h0,chk_p (by omega),chk_t (fits_byte hb h0 hk),atI_chr hb h0 hk]
      by_cases q:chr (bytesOf vs) n = 34
      · simp only [if_pos q]
        rw [cnd_p q,cnd_tt]
      · simp only [if_neg q]
        rw [cnd_n q]
        by_cases q2:chr (bytesOf vs) n = 92
        · simp only [if_pos q2]
          rw [cnd_p q2]
          exact ih _ (by omega) (by omega) (by omega)
        · simp only [if_neg q2]
          rw [cnd_n q2]
          exact ih _ (by omega) (by omega) (by omega)
    · have hk' : ¬ n < ((bytesOf vs).length:Int):=by omega
      simp only [if_neg hk']
      rw [cnd_n hk,cnd_ff]
theorem lps173 (F:Nat) (hF:F = FU):LpsOk (ctx F []) L173 (loopsOf (body Tryz.f173)):=by
  refine lps_one (c:=lp Tryz.f173 0) rfl (by kernel_rfl) fun R st K r h => ?_
  unfold T173 at h
  cases hs:shape 33 [0,3] st.slots with
  | false => rw [hs] at h; simp [Tr.run] at h
  | true =>
  rw [hs] at h
  simp only [cond_true] at h
  have he:=shape_eq hs
  obtain ⟨sl0,H⟩:=st
  dsimp only at h he ⊢
  split at h
  · rename_i n vs a g0 g3
    simp only [List.map_cons,List.map_nil,g0,g3] at he
    subst he
    simp only [Tr.run] at h
    cases hc:(decide (0 ≤ n) && decide (n ≤ vs.length + 2) && decide (vs.length ≤ big) && allB vs) with
    | false => rw [hc] at h; simp at h
    | true =>
    rw [hc] at h
    simp only [Bool.and_eq_true,decide_eq_true_eq] at hc
    obtain ⟨⟨⟨h0,h1⟩,h2⟩,h3⟩:=hc
    unfold big at h2
    refine (loop173 F vs a K h3 h2 F n h0 h1 (by rw [hF]; unfold FU; omega)).trans ?_
    rw [← h,hF]
    rfl
  · simp [Tr.run] at h
end Go.PS
end

section
namespace Go.PS
open Go.Proofs
theorem ok172 (W0:World):EKOk Tryz.prog W0 172 (.eff (frameT S172)):=by
  refine eff_of (tyOk FU [(228,.pure S228)]) (look_ok (all_cons (ok228 W0) all_nil)) mixed fn172 (lps172 FU rfl) fun args H r h => ?_
  unfold S172 at h
  split at h
  · rename_i f c vs a
    refine (run172 FU vs a f c).trans ?_
    rw [← h]
    simp only [Tr.val_ok,Tr.val_cnd,Tr.val_chk]
    cases decide (runTo (bytesOf vs) c FU f < vs.length) <;> rfl
  · simp [Tr.val_no] at h
theorem ok173 (W0:World):EKOk Tryz.prog W0 173 (.eff (frameT S173)):=by
  refine eff_of (tyOk FU []) (look_ok all_nil) mixed fn173 (lps173 FU rfl) fun args H r h => ?_
  unfold S173 at h
  split at h
  · rename_i vs a
    refine (run173 FU vs a).trans ?_
    rw [← h]
    simp only [Tr.val_chk,chk_some,Bool.and_eq_true,decide_eq_true_eq] at h
    obtain ⟨⟨h0,h1⟩,_⟩:=h
    simp only [Tr.val_ok,Tr.val_cnd,Tr.val_chk]
    rw [chk_t (b:=decide (vs.length ≤ big) && allB vs) (by simp [h0,h1]),chk_t (by simp [h0,h1]; omega)]
    cases hc:closeB (bytesOf vs) FU 1 with
    | true => rfl
    | false => rw [closeTo_end _ _ _ hc,bytesOf_length (allB_U8 h1)]; rfl
  · simp [Tr.val_no] at h
def marksF (s:List UInt8) (n:Int):Int:=if n = 2 ∧ markB (s.take 2) = true then 2 else if 1 ≤ n ∧ markB (s.take 1) = true then 1 else 0
def T174 (st:St):Tr (Ex × St) :=
  bif shape 23 [0,3] st.slots then
    match gt .undef st.slots 0,gt .undef st.slots 3,st.heap with
    | .ptr 0 0,.d (.int .i64 n),[.cells [.d (.slc 1 vs),.d (.int .i64 a)]] =>
      .chk (decide (0 ≤ n) && decide (n ≤ 2) && decide (n ≤ vs.length) && allB vs) (.cnd (decide (marksF (bytesOf vs) n = 0))
        (.ok (.exit 0,⟨slots 23 [(0,.ptr 0 0)],[.cells [.d (.slc 1 vs),.d (.int .i64 a)]]⟩))
        (.ok (.ret,⟨slots 23 [(0,.ptr 0 0),(2,.d (.int .i64 (marksF (bytesOf vs) n)))],[.cells [.d (.slc 1 vs),.d (.int .i64 a)]]⟩)))
    | _,_,_ => .no
  else .no
def L174:Lps:=fun i => bif Nat.beq i 2 then some (allBut 23 [0,3],allBut 23 [0,2],T174) else none
theorem marks_stop (F:Nat) {R:Type} (vs:List DV) (a:Int) (K:Ex → St → Option R) (m:Nat) :
      loopK (pcodeK (ctx F [(210,.pure S210)]) noL (lp Tryz.f174 0)) 1 (allBut 23 [0,3] ++ temps (lp Tryz.f174 0)) (allBut 23 [0,2]) (m + 1)
        ⟨slots 23 [(0,.ptr 0 0),(3,.d (.int .i64 0))],[.cells [.d (.slc 1 vs),.d (.int .i64 a)]]⟩ K =
      K (.exit 0) ⟨slots 23 [(0,.ptr 0 0)],[.cells [.d (.slc 1 vs),.d (.int .i64 a)]]⟩:=by
  rw [loopK_succ,round174_0]
  rfl
theorem marks_step (F:Nat) {R:Type} (vs:List DV) (a:Int) (K:Ex → St → Option R) (m:Nat) (n:Int) (h0:0 < n) (h2:n ≤ 2) (h1:n ≤ vs.length) (hb:allB vs = true) :
      loopK (pcodeK (ctx F [(210,.pure S210)]) noL (lp Tryz.f174 0)) 1 (allBut 23 [0,3] ++ temps (lp Tryz.f174 0)) (allBut 23 [0,2]) (m + 1)
        ⟨slots 23 [(0,.ptr 0 0),(3,.d (.int .i64 n))],[.cells [.d (.slc 1 vs),.d (.int .i64 a)]]⟩ K =
      PS.cnd (markB ((bytesOf vs).take n.toNat)) (K .ret ⟨slots 23 [(0,.ptr 0 0),(2,.d (.int .i64 n))],[.cells [.d (.slc 1 vs),.d (.int .i64 a)]]⟩)
       (loopK (pcodeK (ctx F [(210,.pure S210)]) noL (lp Tryz.f174 0)) 1 (allBut 23 [0,3] ++ temps (lp Tryz.f174 0)) (allBut 23 [0,2]) m
        ⟨slots 23 [(0,.ptr 0 0),(3,.d (.int .i64 (n - 1)))],[.cells [.d (.slc 1 vs),.d (.int .i64 a)]]⟩ K):=by
  rw [loopK_succ,round174_0]
  simp only [Tr.run,rnd]
  have e0:List.drop (Int.toNat 0) (List.take n.toNat vs) = List.take n.toNat vs:=rfl
  have w:IntKind.i64.wrap (n - 1) = n - 1:=wrap64 (by omega) (by omega)
  rw [cnd_p (by omega),chk_p (by omega),chk_p (by omega),e0,chk_t (allB_U8 (allB_take _ hb)),bytesOf_take _ hb,w]
theorem loop174 (F:Nat) {R:Type} (vs:List DV) (a:Int) (K:Ex → St → Option R) (hb:allB vs = true) (m:Nat) (n:Int) (h0:0 ≤ n) (h2:n ≤ 2) (h1:n ≤ vs.length) :
      loopK (pcodeK (ctx F [(210,.pure S210)]) noL (lp Tryz.f174 0)) 1 (allBut 23 [0,3] ++ temps (lp Tryz.f174 0)) (allBut 23 [0,2]) (m + 3)
        ⟨slots 23 [(0,.ptr 0 0),(3,.d (.int .i64 n))],[.cells [.d (.slc 1 vs),.d (.int .i64 a)]]⟩ K =
      PS.cnd (decide (marksF (bytesOf vs) n = 0)) (K (.exit 0) ⟨slots 23 [(0,.ptr 0 0)],[.cells [.d (.slc 1 vs),.d (.int .i64 a)]]⟩)
        (K .ret ⟨slots 23 [(0,.ptr 0 0),(2,.d (.int .i64 (marksF (bytesOf vs) n)))],[.cells [.d (.slc 1 vs),.d (.int .i64 a)]]⟩):=by
  have hn:n = 0 ∨ n = 1 ∨ n = 2:=by omega
  rcases hn with rfl | rfl | rfl
  · rw [marks_stop]; rfl
  · rw [marks_step F vs a K (m + 2) 1 (by omega) (by omega) h1 hb,show (1:Int) - 1 = 0 from rfl,marks_stop]
    have e:marksF (bytesOf vs) 1 = if markB ((bytesOf vs).take 1) = true then 1 else 0:=by simp [marksF]
    rw [e,show (1:Int).toNat = 1 from rfl]
    cases markB ((bytesOf vs).take 1) <;> rfl
  · rw [marks_step F vs a K (m + 2) 2 (by omega) (by omega) h1 hb,show (2:Int) - 1 = 1 from rfl,marks_step F vs a K (m + 1) 1 (by omega) (by omega) (by omega) hb,show (1:Int) - 1 = 0 from rfl,marks_stop]
    have e:marksF (bytesOf vs) 2 = if markB ((bytesOf vs).take 2) = true then 2 else if markB ((bytesOf vs).take 1) = true then 1 else 0:=by simp [marksF]
    rw [e,show (1:Int).toNat = 1 from rfl,show (2:Int).toNat = 2 from rfl]
    cases markB ((bytesOf vs).take 1) <;> cases markB ((bytesOf vs).take 2) <;> rfl
theorem lps174 (F:Nat) (hF:F = FU):LpsOk (ctx F [(210,.pure S210)]) L174 (loopsOf (body Tryz.f174)):=by
  refine lps_one (c:=lp Tryz.f174 0) rfl (by kernel_rfl) fun R st K r h => ?_
  unfold T174 at h
  cases hs:shape 23 [0,3] st.slots with
  | false => rw [hs] at h; simp [Tr.run] at h
  | true =>
  rw [hs] at h
  simp only [cond_true] at h
  have he:=shape_eq hs
  obtain ⟨sl0,H⟩:=st
  dsimp only at h he ⊢
  split at h
  · rename_i n vs a g0 g3
    simp only [List.map_cons,List.map_nil,g0,g3] at he
    subst he
    simp only [Tr.run] at h
    cases hc:(decide (0 ≤ n) && decide (n ≤ 2) && decide (n ≤ vs.length) && allB vs) with
    | false => rw [hc] at h; simp at h
    | true =>
    rw [hc] at h
    simp only [Bool.and_eq_true,decide_eq_true_eq] at hc
    obtain ⟨⟨⟨h0,h1⟩,h2⟩,h3⟩:=hc
    subst hF
    exact (loop174 FU vs a K h3 9999997 n h0 h1 h2).trans h
  · simp [Tr.run] at h
theorem ok229 (W0:World):EKOk Tryz.prog W0 229 (.pure S254):=by
  refine pure_of (tyOk 0 [(254,.pure S254)]) (look_ok (all_cons (ok254 W0) all_nil)) mixed fn229 (lpsOk_no _ _) fun args r h => ?_
  unfold S254 at h
  split at h
  · rename_i s p
    exact (run229 0 s p).trans h
  · simp [Tr.val_no] at h
end Go.PS
end

section
namespace Go.PS
open Go.Proofs
set_option maxRecDepth 100000
theorem fn174:FnOk Tryz.prog 174 23 [.tmp 2] (body Tryz.f174):=⟨Tryz.f174,Tryz.func174,bodySome _ (by kernel_rfl),by kernel_rfl,by kernel_rfl,by kernel_rfl,by kernel_rfl⟩
theorem run174 (F:Nat) (vs:List DV) (a:Int):runE (ctx F [(210,.pure S210)]) L174 23 [.tmp 2] (body Tryz.f174) [.ptr 0 0] [.cells [.d (.slc 1 vs),.d
 (.int .i64 a)]] = Tr.val (.chk (decide (0 ≤ min 2 (↑vs.length:Int)) && decide (min 2 (↑vs.length:Int) ≤ 2) && decide (min 2 (↑vs.length:Int) ≤ (↑vs.length
 : Int)) && allB vs) (.cnd (decide (marksF (bytesOf vs) (min 2 (↑vs.length:Int)) = 0)) (.ok ((Out.ret (PV.d (.int .i64 (0))),[PObj.cells [.d (.slc 1 vs),.d
 (.int .i64 a)]]))) (.ok ((Out.ret (PV.d (.int .i64 (marksF (bytesOf vs) (min 2 (↑vs.length:Int))))),[PObj.cells [.d (.slc 1 vs),.d (.int .i64 a)]]))))):=by
 kernel_rfl
end Go.PS
end

section
namespace Go.PS
open Go.Proofs
theorem cnd_if {R:Type} (b:Bool) (x y:Option R):PS.cnd b x y = if b = true then x else y:=by cases b <;> rfl
theorem chk_if {R:Type} (b:Bool) (x:Option R):PS.chk b x = if b = true then x else none:=by cases b <;> rfl
theorem chr_drop (s:List UInt8) (k:Nat) (i:Int) (h:0 ≤ i):chr (s.drop k) i = chr s (k + i):=by
  rw [← chr_def,← chr_def,show ((k:Int) + i).toNat = k + i.toNat by omega]
  simp [List.getD_eq_getElem?_getD,List.getElem?_drop]
theorem runTo_range (s:List UInt8) (c:Bool):∀ (m:Nat) (i:Int),i ≤ s.length → i ≤ runTo s c m i ∧ runTo s c m i ≤ s.length:=by
  intro m
  induction m with
  | zero => intro i h; exact ⟨Int.le_refl _,h⟩
  | succ m ih => intro i h; simp only [runTo]; grind
theorem closeTo_range (s:List UInt8):∀ (m:Nat) (i:Int),0 ≤ i → 1 ≤ s.length → 1 ≤ closeTo s m i ∧ closeTo s m i ≤ s.length:=by
  intro m
  induction m with
  | zero => intro i h h1; simp only [closeTo]; omega
  | succ m ih => intro i h h1; simp only [closeTo]; grind
theorem pieceN_range (s:List UInt8) (h:1 ≤ s.length):0 ≤ pieceN s ∧ pieceN s ≤ s.length:=by
  have a1:=runTo_range s true FU 0 (by omega)
  have a2:=runTo_range s false FU 1 (by omega)
  have a3:=closeTo_range s FU 1 (by omega) h
  have a4:markB (s.take 1) = true → 1 ≤ s.length:=fun _ => h
  unfold pieceN
  grind
theorem ok174 (W0:World):EKOk Tryz.prog W0 174 (.eff (frameT S174)):=by
  refine eff_of (tyOk FU [(210,.pure S210)]) (look_ok (all_cons (ok210 W0) all_nil)) mixed fn174 (lps174 FU rfl) fun args H r h => ?_
  unfold S174 at h
  split at h
  · rename_i vs a
    refine (run174 FU vs a).trans ?_
    rw [← h]
    simp only [Tr.val_chk,chk_some,Bool.and_eq_true,decide_eq_true_eq] at h
    obtain ⟨⟨h0,h1⟩,_⟩:=h
    have hl:=bytesOf_length (allB_U8 h1)
    have e:marksF (bytesOf vs) (min 2 (vs.length:Int)) = marksN (bytesOf vs):=by
      unfold marksF marksN
      have:vs.length = 0 → markB ((bytesOf vs).take 1) = false:=by
        intro h; have:bytesOf vs = []:=List.eq_nil_of_length_eq_zero (by omega)
        rw [this]; rfl
      grind
    simp only [Tr.val_ok,Tr.val_cnd,Tr.val_chk,e,cnd_dec,PS.chk]
    grind
  · simp [Tr.val_no] at h
end Go.PS
end

section
namespace Go.PS
open Go.Proofs
theorem failN_range (s:List UInt8) (n:Int) (h:0 ≤ n):0 ≤ failN s n ∧ failN s n ≤ s.length:=by unfold failN; grind
theorem width_range' (s:List UInt8) (a:Int) (h0:0 ≤ a) (h:a < s.length):0 ≤ width s a ∧ a + width s a ≤ s.length:=by
  obtain ⟨k,rfl⟩:=Int.eq_ofNat_of_zero_le h0
  rcases dec_cases s k (by omega) with ⟨_,_,hw⟩ | ⟨_,_,hw⟩ | ⟨_,_,_,h3,hw⟩ <;> omega
theorem textGo_pos (s:List UInt8):∀ (m:Nat) (a:Int) (out:List UInt8),0 ≤ a → a ≤ s.length → 0 ≤ (textGo s m a out).pos ∧ (textGo s m a out).pos ≤ s.length:=by
  intro m
  induction m with
  | zero => intro a out _ _; simp only [textGo]; omega
  | succ m ih =>
    intro a out h0 h1
    by_cases hk:a < s.length
    · have w:=width_range' s a h0 hk
      have e:=escTo_range s (a + 1) (by omega)
      have f:=failN_range s (escTo s (a + 1)) (by omega)
      have i1:=ih (escTo s (a + 1)) (out ++ [UInt8.ofNat (escV s (a + 1)).toNat])
      have i2:=ih (a + width s a) (out ++ (s.drop a.toNat).take (width s a).toNat)
      clear ih
      simp only [textGo]
      grind
    · simp only [textGo,if_neg hk]; omega
theorem digTo_ge (s:List UInt8):∀ (m:Nat) (i:Int),i ≤ digTo s m i:=by
  intro m
  induction m with
  | zero => intro i; exact Int.le_refl _
  | succ m ih => intro i; have:=ih (i + 1); clear ih; simp only [digTo]; grind
theorem numR_pos (s:List UInt8) (h:1 ≤ s.length):0 ≤ (numR s).pos ∧ (numR s).pos ≤ s.length:=by
  have f:=failN_range s (numAt s)
  have g:0 ≤ numAt s ∧ numAt s ≤ 1:=by unfold numAt; grind
  have d:=digTo_le s FU (numAt s + 1)
  have d2:=digTo_ge s FU (numAt s + 1)
  unfold numR
  grind
theorem parseR_pos (s:List UInt8):0 ≤ (parseR s).pos ∧ (parseR s).pos ≤ s.length:=by
  have a:=textGo_pos s FU 1 []
  have b:=numR_pos s
  unfold parseR textR
  grind
theorem tk1_iff (s:List UInt8) (c:UInt8):s.take 1 = [c] ↔ 1 ≤ s.length ∧ chr s 0 = (c.toNat:Int):=by
  cases s with
  | nil => simp
  | cons b l =>
    have e:chr (b :: l) 0 = (b.toNat:Int):=rfl
    rw [e]
    constructor
    · intro h; simp at h; subst h; simp
    · rintro ⟨_,h⟩
      have:b = c:=UInt8.toNat_inj.1 (by omega)
      subst this; rfl
theorem ok175 (W0:World) (hW:Laid W0):EKOk Tryz.prog W0 175 (.pure S175):=by
  refine pure_of (tyOk 0 [(230,.pure S230),(229,.pure S254)]) (look_ok (all_cons (ok230 W0 hW) (all_cons (ok229 W0) all_nil))) mixed fn175 (lpsOk_no _ _) fun args r h => ?_
  unfold S175 at h
  split at h
  · rename_i s
    refine (run175 0 s).trans ?_
    rw [← h]
    simp only [Tr.val_chk,chk_some,Bool.and_eq_true,decide_eq_true_eq] at h
    obtain ⟨⟨h0,h1⟩,_⟩:=h
    have hb:s.length ≤ 1000000:=h1
    have hh:=tk1_iff s 35
    have p0:=parseR_pos s
    have p1:=parseR_pos (s.drop 1)
    rw [List.length_drop] at p1
    have w0:IntKind.i64.wrap (IntKind.i64.wrap ((parseR s).pos + (↑s.length:Int)) - (↑s.length:Int)) = (parseR s).pos:=by
      rw [wrap64 (x:=(parseR s).pos + (↑s.length:Int)) (by omega) (by omega),wrap64 (by omega) (by omega)]; omega
    have w1:IntKind.i64.wrap (IntKind.i64.wrap ((parseR (s.drop 1)).pos + (↑s.length:Int)) - ((s.length - 1:Nat):Int)) = (parseR (s.drop 1)).pos + 1:=by
      rw [wrap64 (x:=(parseR (s.drop 1)).pos + (↑s.length:Int)) (by omega) (by omega),wrap64 (by omega) (by omega)]; omega
    have d1:s.drop (1:Int).toNat = s.drop 1:=rfl
    have d0:s.drop (0:Int).toNat = s:=rfl
    simp only [Tr.val_ok,Tr.val_cnd,Tr.val_chk,List.length_cons,List.length_nil,Nat.zero_add,List.length_drop,w0,w1,cnd_if,chk_if,Bool.and_eq_true,decide_eq_true_eq,Bool.not_eq_true',decide_eq_false_iff_not,TR.pv]
    unfold numT hashN
    by_cases g:chr s 0 = 35
    · simp only [if_pos g,d1]
      grind
    · simp only [if_neg g,d0]
      grind
  · simp [Tr.val_no] at h
end Go.PS
end

section
namespace Go.PS
open Go.Proofs
theorem mark_first (s:List UInt8) (n:Nat) (h:markB (s.take n) = true):smallB (chr s 0) = false ∧ chr s 0 ≠ 34 ∧ chr s 0 ≠ 45 ∧ chr s 0 ≠ 35 ∧ isDigit (chr s 0) = false ∧ 1 ≤ n ∧ 1 ≤ s.length:=by
  cases s with
  | nil => simp [markB] at h
  | cons b l =>
    cases n with
    | zero => simp [markB] at h
    | succ n =>
    have e:chr (b :: l) 0 = (b.toNat:Int):=rfl
    rw [e]
    unfold markB at h
    simp only [List.take_succ_cons,Bool.or_eq_true,decide_eq_true_eq,List.cons.injEq] at h
    rcases h with ((((((((h | h) | h) | h) | h) | h) | h) | h) | h) | h <;> (obtain ⟨rfl,_⟩:=h; simp [smallB,isDigit])
theorem small_take (s:List UInt8) (n:Int) (h:1 ≤ n):chr (s.take n.toNat) 0 = chr s 0:=by
  unfold chr
  obtain ⟨k,hk⟩:∃ k,n.toNat = k + 1:=⟨n.toNat - 1,by omega⟩
  rw [hk]
  cases s <;> rfl
theorem tok_piece (s:List UInt8) (h0:1 ≤ s.length) (hp:pieceN s ≠ 0):tokR (s.take (pieceN s).toNat) = if smallB (chr s 0) = true then (if 12 < pieceN s then ⟨0,0,[],0,5⟩ else ⟨1,0,s.take (pieceN s).toNat,0,0⟩) else if chr s 0 = 34 ∨ chr s 0 = 45 ∨ chr s 0 = 35 ∨ isDigit (chr s 0) = true then numT (s.take (pieceN s).toNat) else ⟨5,0,s.take (pieceN s).toNat,0,0⟩:=by
  have pR:=pieceN_range s h0
  have l1:((s.take (pieceN s).toNat).length:Int) = pieceN s:=by rw [List.length_take]; omega
  have mm:=mark_first s (pieceN s).toNat
  unfold tokR
  rw [small_take _ _ (by omega)]
  by_cases g:smallB (chr s 0) = true
  · rw [if_pos g,if_pos g]
    grind
  · rw [if_neg g,if_neg g]
    by_cases q:chr s 0 = 34 ∨ chr s 0 = 45 ∨ chr s 0 = 35 ∨ isDigit (chr s 0) = true
    · rw [if_pos q]
      have:¬ markB (s.take (pieceN s).toNat) = true:=by
        intro h; obtain ⟨_,m1,m2,m3,m4,_⟩:=mm h
        rcases q with q | q | q | q
        · exact m1 q
        · exact m2 q
        · exact m3 q
        · rw [q] at m4; simp at m4
      rw [if_neg this]
    · rw [if_neg q]
      have e2:s.take (2:Int).toNat = s.take 2:=rfl
      have e1:s.take (1:Int).toNat = s.take 1:=rfl
      have:markB (s.take (pieceN s).toNat) = true:=by
        clear mm l1 pR
        unfold pieceN at hp ⊢
        grind
      rw [if_pos this]
theorem ok102 (W0:World) (hW:Laid W0):EKOk Tryz.prog W0 102 (.eff (frameT S102)):=by
  refine eff_of (tyOk 0 [(101,.eff (frameT S101)),(172,.eff (frameT S172)),(173,.eff (frameT S173)),(174,.eff (frameT S174)),(175,.pure S175)]) (look_ok (all_cons (ok101 W0) (all_cons (ok172 W0) (all_cons (ok173 W0) (all_cons (ok174 W0) (all_cons (ok175 W0 hW) all_nil)))))) mixed fn102 (lpsOk_no _ _) fun args H r h => ?_
  unfold S102 at h
  split at h
  · rename_i vs a
    refine (run102 0 vs a).trans ?_
    rw [← h]
    simp only [Tr.val_chk,chk_some,Bool.and_eq_true,decide_eq_true_eq] at h
    obtain ⟨⟨⟨⟨h0,h1⟩,h2⟩,h3⟩,h4⟩:=h.1
    clear h
    have hb:vs.length ≤ 1000000:=h1
    have hb' : a ≤ 1000000:=h4
    have hl:=bytesOf_length (allB_U8 h2)
    have hf:fits [DV.int IntKind.u8 0] (gt DV.nili vs (Int.toNat 0)).cells = true:=fits_byte h2 (i:=0) (by omega) (by omega)
    have ha:atI vs (Int.toNat 0) 0 = chr (bytesOf vs) 0:=atI_chr h2 (i:=0) (by omega) (by omega)
    generalize hs:bytesOf vs = s at hl ha ⊢
    have z0:Int.toNat 0 < vs.length:=h0
    have z1:0 < vs.length:=h0
    have a1:=runTo_range s true FU 0 (by omega)
    have a2:=runTo_range s false FU 1 (by omega)
    have a3:=closeTo_range s FU 1 (by omega) (by omega)
    have pr:smallB (chr s 0) = true → 1 ≤ runTo s true FU 0:=by
      intro h
      have e:runTo s true FU 0 = runTo s true (FU - 1) 1:=by
        have e1:FU = (FU - 1) + 1:=rfl
        conv => lhs; rw [e1]
        simp only [runTo]
        rw [if_pos ⟨by omega,Or.inr ⟨trivial,h⟩⟩]; rfl
      rw [e]; exact (runTo_range s true _ 1 (by omega)).1
    have ln:∀ n:Int,1 ≤ n → n ≤ vs.length → ((s.take n.toNat).length:Int) = n:=by intro n h1 h2; rw [List.length_take]; omega
    have sm:smallB (chr s 0) = true ↔ 97 ≤ chr s 0 ∧ chr s 0 ≤ 122:=by unfold smallB; simp
    have dg:=isDigit_iff (chr s 0)
    have pR:=pieceN_range s (by omega)
    have hT:=tok_piece s (by omega)
    have ln0:=ln (runTo s true FU 0)
    have ln1:=ln (runTo s false FU 1)
    have ln2:=ln (closeTo s FU 1)
    have hM:marksN s = if 2 ≤ s.length ∧ markB (s.take 2) = true then 2 else if markB (s.take 1) = true then 1 else 0:=rfl
    have hk1:(decide (1 ≤ vs.length) && decide (vs.length ≤ big) && allB vs && decide (0 ≤ a) && decide (a ≤ big)) = true:=by simp [h0,h1,h2,h3,h4]
    have hPm:¬ smallB (chr s 0) = true → ¬ chr s 0 = 34 → ¬ (chr s 0 = 45 ∨ chr s 0 = 35 ∨ isDigit (chr s 0) = true) → pieceN s = marksN s:=by
      intro a b c; unfold pieceN; rw [if_neg a,if_neg b,if_neg c]; rfl
    have hP1:smallB (chr s 0) = true → pieceN s = runTo s true FU 0:=by intro a; unfold pieceN; rw [if_pos a]
    have hP2:chr s 0 = 34 → pieceN s = closeTo s FU 1:=by intro a; unfold pieceN; rw [if_neg (by grind),if_pos a]
    have hP3:(chr s 0 = 45 ∨ chr s 0 = 35 ∨ isDigit (chr s 0) = true) → pieceN s = runTo s false FU 1:=by intro a; unfold pieceN; rw [if_neg (by grind),if_neg (by grind),if_pos a]
    simp only [Tr.val_ok,Tr.val_cnd,Tr.val_chk,ha]
    clear hM ln hs
    rw [chk_t hk1,chk_p z0,chk_t hf]
    simp only [cnd_if,chk_if,Bool.and_eq_true,decide_eq_true_eq,h1,h2,h3,h4,TR.pv]
    by_cases c1:smallB (chr s 0) = true
    · have c2:=sm.1 c1
      rw [hP1 c1] at hT ⊢
      grind
    · by_cases c2:chr s 0 = 34
      · rw [hP2 c2] at hT ⊢
        grind
      · by_cases c3:(chr s 0 = 45 ∨ chr s 0 = 35 ∨ isDigit (chr s 0) = true)
        · rw [hP3 c3] at hT ⊢
          grind
        · rw [hPm c1 c2 c3] at hT ⊢
          grind
  · simp [Tr.val_no] at h
end Go.PS
end

section
namespace Go.PS
open Go.Proofs
def blankB (b:Int):Bool:=decide (b = 9) || decide (b = 10) || decide (b = 32)
structure LR where
  toks:List DV
  pos:Int
  err:Int
  fin:Int
def TR.dv (t:TR) (a:Int):DV:=.agg [.int .i64 t.kind,.str t.txt,.int .i64 t.n,.int .i64 a]
def tokAt (s:List UInt8) (a:Int):TR:=tokR ((s.drop a.toNat).take (pieceN (s.drop a.toNat)).toNat)
def lexGo (s:List UInt8):Nat → Int → List DV → LR
  | 0,a,out => ⟨out,0,5,a⟩
  | m + 1,a,out =>
    if a < s.length then
      (if blankB (chr s a) = true then lexGo s m (a + 1) out
      else if pieceN (s.drop a.toNat) = 0 then ⟨out,a,11,a⟩
      else if (tokAt s a).err = 0 then lexGo s m (a + pieceN (s.drop a.toNat)) (out ++ [(tokAt s a).dv a])
      else ⟨out,a + (tokAt s a).pos,(tokAt s a).err,a + pieceN (s.drop a.toNat)⟩)
    else ⟨out,s.length,0,s.length⟩
def lexR (s:List UInt8):LR:=if 2000 < s.length then ⟨[],0,5,0⟩ else lexGo s FU 0 []
def S42:List PV → Tr PV
  | [.d (.str s)] => .chk (decide (s.length ≤ big)) (.cnd (decide ((lexR s).err = 0))
      (.ok (.tup [.d (.slc 4 (lexR s).toks),.d (.int .i64 (lexR s).pos),.d (.int .i64 (lexR s).err)]))
      (.ok (.tup [.own 4 [],.d (.int .i64 (lexR s).pos),.d (.int .i64 (lexR s).err)])))
  | _ => .no
def T42 (st:St):Tr (Ex × St) :=
  bif shape 59 [0,5,6] st.slots then
    match gt .undef st.slots 0,gt .undef st.slots 5,gt .undef st.slots 6,st.heap with
    | .d (.str s),.ptr 0 0,.own 4 out,[.cells [.d (.slc 1 vs),.d (.int .i64 a)]] =>
      .chk (decide (0 ≤ a) && decide (a ≤ s.length) && decide (s.length ≤ 2000) && allB vs && decide (bytesOf vs = s.drop a.toNat) && decide (out.length ≤ a))
       (.cnd (decide ((lexGo s FU a out).err = 0))
        (.ok (.exit 0,⟨slots 59 [(0,.d (.str s)),(6,.own 4 (lexGo s FU a out).toks)],[.cells [.d (.slc 1 (bytesDV (s.drop (lexGo s FU a out).fin.toNat))),.d (.int .i64 (lexGo s FU a out).fin)]]⟩))
        (.ok (.ret,⟨slots 59 [(0,.d (.str s)),(2,.own 4 []),(3,.d (.int .i64 (lexGo s FU a out).pos)),(4,.d (.int .i64 (lexGo s FU a out).err)),(6,.own 4 (lexGo s FU a out).toks)],[.cells [.d (.slc 1 (bytesDV (s.drop (lexGo s FU a out).fin.toNat))),.d (.int .i64 (lexGo s FU a out).fin)]]⟩)))
    | _,_,_,_ => .no
  else .no
def L42:Lps:=fun i => bif Nat.beq i 5 then some (allBut 59 [0,5,6],allBut 59 [0,2,3,4,6],T42) else none
end Go.PS
end

section
namespace Go.PS
open Go.Proofs
set_option maxRecDepth 100000
theorem round42_0 (F:Nat) {R:Type} (s:List UInt8) (vs out:List DV) (a:Int) (K:Ex → St → Option R) (G:St → Option R):roundK (pcodeK (ctx F [(100,
 .pure S100),(101,.eff (frameT S101)),(102,.eff (frameT S102))]) noL (lp Tryz.f42 0)) 1 (allBut 59 [0,5,6] ++ temps (lp Tryz.f42 0)) (allBut 59 [0,2,3,4,
 6]) ⟨slots 59 [(0,.d (.str s)),(5,.ptr 0 0),(6,.own 4 out)],[.cells [.d (.slc 1 vs),.d (.int .i64 a)]]⟩ K G = Tr.run (.cnd (decide ((↑vs.length:Int) >
 0)) (.chk (decide (Int.toNat 0 < vs.length)) (.chk (fits [.int .u8 0] (gt DV.nili vs (Int.toNat 0)).cells) (.cnd (decide (idxB ([32,9,10]:List UInt8) (atI vs
 (Int.toNat 0) 0) ≥ 0)) (.chk (decide (0 ≤ 1) && decide (1 ≤ (↑vs.length:Int)) && decide (vs.length ≤ big) && allB vs && decide (0 ≤ a) && decide (a ≤ (↑big :
 Int))) (.ok (.inr ⟨slots 59 [(0,.d (.str s)),(5,PV.ptr 0 0),(6,PV.own 4 out)],[PObj.cells [.d (.slc 1 (List.drop (Int.toNat 1) vs)),.d (.int .i64 (a +
 1))]]⟩))) (.chk (decide (1 ≤ vs.length) && decide (vs.length ≤ big) && allB vs && decide (0 ≤ a) && decide (a ≤ (↑big:Int))) (.cnd (decide (pieceN (bytesOf vs)
 = 0)) (.ok (.inl (Ex.ret,⟨slots 59 [(0,.d (.str s)),(2,PV.own 4 []),(3,.d (.int .i64 (IntKind.i64.wrap (a + 0)))),(4,.d (.int .i64 (11))),(6,PV.own 4
 out)],[PObj.cells [.d (.slc 1 vs),.d (.int .i64 a)]]⟩))) (.cnd (!decide ((tokR (List.take (pieceN (bytesOf vs)).toNat (bytesOf vs))).err = 0)) (.ok (.inl
 (Ex.ret,⟨slots 59 [(0,.d (.str s)),(2,PV.own 4 []),(3,.d (.int .i64 (IntKind.i64.wrap (a + (tokR (List.take (pieceN (bytesOf vs)).toNat (bytesOf
 vs))).pos)))),(4,.d (.int .i64 (tokR (List.take (pieceN (bytesOf vs)).toNat (bytesOf vs))).err)),(6,PV.own 4 out)],[PObj.cells [.d (.slc 1 (List.drop
 (pieceN (bytesOf vs)).toNat vs)),.d (.int .i64 (a + pieceN (bytesOf vs)))]]⟩))) (.chk (limit 40 (out.length + (fillS (rep 1 (zeroDV ((ctx F [(37,EK.pure S100),
 (38,EK.eff (frameT S101)),(39,EK.eff (frameT S102))]).ty 55))) [(0,DV.agg [.int .i64 (tokR (List.take (pieceN (bytesOf vs)).toNat (bytesOf vs))).kind,.str
 (tokR (List.take (pieceN (bytesOf vs)).toNat (bytesOf vs))).txt,.int .i64 (tokR (List.take (pieceN (bytesOf vs)).toNat (bytesOf vs))).n,.int .i64
 a])]).length)) (.ok (.inr ⟨slots 59 [(0,.d (.str s)),(5,PV.ptr 0 0),(6,PV.own 4 (out ++ [DV.agg [.int .i64 (tokR (List.take (pieceN (bytesOf vs)).toNat
 (bytesOf vs))).kind,.str (tokR (List.take (pieceN (bytesOf vs)).toNat (bytesOf vs))).txt,.int .i64 (tokR (List.take (pieceN (bytesOf vs)).toNat (bytesOf
 vs))).n,.int .i64 a]]))],[PObj.cells [.d (.slc 1 (List.drop (pieceN (bytesOf vs)).toNat vs)),.d (.int .i64 (a + pieceN (bytesOf vs)))]]⟩))))))))) (.ok (.inl
 (Ex.exit 0,⟨slots 59 [(0,.d (.str s)),(6,PV.own 4 out)],[PObj.cells [.d (.slc 1 vs),.d (.int .i64 a)]]⟩)))) (rnd K G):=by kernel_rfl
theorem fn42:FnOk Tryz.prog 42 59 [.tmp 2,.tmp 3,.tmp 4] (body Tryz.f42):=⟨Tryz.f42,Tryz.func42,bodySome _ (by kernel_rfl),by kernel_rfl,by kernel_rfl,by kernel_rfl,by kernel_rfl⟩
theorem run42 (F:Nat) (s:List UInt8):runP (ctx F [(100,.pure S100),(101,.eff (frameT S101)),(102,.eff (frameT S102))]) L42 59 [.tmp 2,.tmp 3,.tmp 4]
 (body Tryz.f42) [.d (.str s)] = Tr.val (.cnd (decide ((↑s.length:Int) > 2000)) (.ok (PV.tup [PV.own 4 [],.d (.int .i64 (0)),.d (.int .i64 (5))])) (.chk
 (decide (0 ≤ 0) && decide (0 ≤ (↑s.length:Int)) && decide (s.length ≤ 2000) && allB (bytesDV s) && decide (bytesOf (bytesDV s) = List.drop (Int.toNat 0) s) &&
 decide ((0:Int) ≤ 0)) (.cnd (decide ((lexGo s FU 0 []).err = 0)) (.ok (PV.tup [.d (.slc 4 (lexGo s FU 0 []).toks),.d (.int .i64 (↑s.length:Int)),.d (.int
 .i64 (0))])) (.ok (PV.tup [PV.own 4 [],.d (.int .i64 (lexGo s FU 0 []).pos),.d (.int .i64 (lexGo s FU 0 []).err)]))))):=by kernel_rfl
end Go.PS
end

section
namespace Go.PS
open Go.Proofs
set_option maxRecDepth 100000 in
theorem idx_blank (b:UInt8):decide (Lib.indexByte [32,9,10] b ≥ 0) = blankB (b.toNat:Int) :=
  byte_all (p:=fun b => decide (Lib.indexByte [32,9,10] b ≥ 0) = blankB (b.toNat:Int)) (by decide) b
theorem blank_iff (s:List UInt8) (n:Int):decide (idxB [32,9,10] (chr s n) ≥ 0) = blankB (chr s n):=by
  rw [idx_chr,idx_blank]; rfl
theorem allB_bytes:∀ {l:List DV},allB l = true → bytesDV (bytesOf l) = l
  | [],_ => rfl
  | v :: l,h => by
    obtain ⟨n,rfl,h0,h1,h⟩:=allB_cons h
    have e:((UInt8.ofNat n.toNat).toNat:Int) = n:=by rw [UInt8.toNat_ofNat']; omega
    show DV.int .u8 ((UInt8.ofNat n.toNat).toNat:Int) :: bytesDV (bytesOf l) = _
    rw [e,allB_bytes h]
theorem bytesOf_DV (s:List UInt8):bytesOf (bytesDV s) = s:=by
  induction s with
  | nil => rfl
  | cons b s ih =>
    show UInt8.ofNat ((b.toNat:Int)).toNat :: bytesOf (bytesDV s) = _
    rw [ih]; simp
theorem numT_pos (s:List UInt8) (h:1 ≤ s.length):0 ≤ (numT s).pos ∧ (numT s).pos ≤ s.length:=by
  have:=parseR_pos (s.drop (hashN s).toNat)
  rw [List.length_drop] at this
  have e:hashN s = 0 ∨ hashN s = 1:=by unfold hashN; grind
  unfold numT
  rcases e with e | e <;> rw [e] at this ⊢
  · have e0:Int.toNat 0 = 0:=rfl
    rw [e0] at this ⊢
    grind
  · have e0:Int.toNat 1 = 1:=rfl
    rw [e0] at this ⊢
    grind
theorem tokR_pos (s:List UInt8) (h:1 ≤ s.length):0 ≤ (tokR s).pos ∧ (tokR s).pos ≤ s.length:=by
  have:=numT_pos s h
  unfold tokR
  grind
set_option maxHeartbeats 1000000 in
theorem loop42 (F:Nat) {R:Type} (s:List UInt8) (K:Ex → St → Option R) (hs:s.length ≤ 2000) :
    ∀ (m:Nat) (a:Int) (vs out:List DV),0 ≤ a → a ≤ s.length → allB vs = true → bytesOf vs = s.drop a.toNat → out.length ≤ a → (s.length - a).toNat < m →
      loopK (pcodeK (ctx F [(100,.pure S100),(101,.eff (frameT S101)),(102,.eff (frameT S102))]) noL (lp Tryz.f42 0)) 1 (allBut 59 [0,5,6] ++ temps (lp Tryz.f42 0)) (allBut 59 [0,2,3,4,6]) m
        ⟨slots 59 [(0,.d (.str s)),(5,.ptr 0 0),(6,.own 4 out)],[.cells [.d (.slc 1 vs),.d (.int .i64 a)]]⟩ K =
      PS.cnd (decide ((lexGo s m a out).err = 0))
        (K (.exit 0) ⟨slots 59 [(0,.d (.str s)),(6,.own 4 (lexGo s m a out).toks)],[.cells [.d (.slc 1 (bytesDV (s.drop (lexGo s m a out).fin.toNat))),.d (.int .i64 (lexGo s m a out).fin)]]⟩)
        (K .ret ⟨slots 59 [(0,.d (.str s)),(2,.own 4 []),(3,.d (.int .i64 (lexGo s m a out).pos)),(4,.d (.int .i64 (lexGo s m a out).err)),(6,.own 4 (lexGo s m a out).toks)],[.cells [.d (.slc 1 (bytesDV (s.drop (lexGo s m a out).fin.toNat))),.d (.int .i64 (lexGo s m a out).fin)]]⟩):=by
  intro m
  induction m with
  | zero => intro a vs out _ _ _ _ _ hm; omega
  | succ m ih =>
    intro a vs out h0 h1 hb hv ho hm
    rw [loopK_succ,round42_0]
    have hl:vs.length = s.length - a.toNat:=by rw [← bytesOf_length (allB_U8 hb),hv,List.length_drop]
    have hvs:vs = bytesDV (s.drop a.toNat):=by rw [← hv,allB_bytes hb]
    have hbig:vs.length ≤ big:=by unfold big; omega
    have hab:a ≤ (big:Int):=by unfold big; omega
    simp only [Tr.run,rnd]
    by_cases hk:a < s.length
    · have hf:fits [DV.int IntKind.u8 0] (gt DV.nili vs (Int.toNat 0)).cells = true:=fits_byte hb (i:=0) (by omega) (by omega)
      have ha:atI vs (Int.toNat 0) 0 = chr s a:=by
        have:atI vs (Int.toNat 0) 0 = chr (bytesOf vs) 0:=atI_chr hb (i:=0) (by omega) (by omega)
        rw [this,hv,chr_drop _ _ _ (by omega),show ((a.toNat:Nat):Int) + 0 = a by omega]
      rw [cnd_p (by omega),chk_p (by show 0 < vs.length; omega),chk_t hf,ha,blank_iff]
      by_cases b:blankB (chr s a) = true
      · have hg:lexGo s (m + 1) a out = lexGo s m (a + 1) out:=by simp only [lexGo,if_pos hk,if_pos b]
        have hd:bytesOf (vs.drop (Int.toNat 1)) = s.drop (a + 1).toNat:=by
          rw [bytesOf_drop _ hb,hv,List.drop_drop]; congr 1; show a.toNat + 1 = _; omega
        rw [cnd_t b,chk_t (by simp only [Bool.and_eq_true,decide_eq_true_eq]; exact ⟨⟨⟨⟨⟨by omega,by omega⟩,hbig⟩,hb⟩,h0⟩,hab⟩),ih (a + 1) _ out (by omega) (by omega) (allB_drop _ hb) hd (by omega) (by omega),hg]
      · have pR:=pieceN_range (s.drop a.toNat) (by rw [List.length_drop]; omega)
        rw [List.length_drop] at pR
        have e2:tokR ((bytesOf vs).take (pieceN (bytesOf vs)).toNat) = tokAt s a:=by rw [hv]; rfl
        rw [cnd_f (by simpa using b),chk_t (by simp only [Bool.and_eq_true,decide_eq_true_eq]; exact ⟨⟨⟨⟨by omega,hbig⟩,hb⟩,h0⟩,hab⟩),e2,hv]
        by_cases p0:pieceN (s.drop a.toNat) = 0
        · have hg:lexGo s (m + 1) a out = ⟨out,a,11,a⟩:=by simp only [lexGo,if_pos hk,if_neg b,if_pos p0]
          have w:IntKind.i64.wrap (a + 0) = a:=(wrap64 (by omega) (by omega)).trans (by omega)
          rw [cnd_p p0,hg,w,cnd_n (by simp),← hvs]
        · rw [cnd_n p0]
          have tp:0 ≤ (tokAt s a).pos ∧ (tokAt s a).pos ≤ s.length:=by
            have:=tokR_pos ((s.drop a.toNat).take (pieceN (s.drop a.toNat)).toNat) (by rw [List.length_take,List.length_drop]; omega)
            rw [List.length_take,List.length_drop] at this
            unfold tokAt; omega
          have hd:bytesOf (vs.drop (pieceN (s.drop a.toNat)).toNat) = s.drop (a + pieceN (s.drop a.toNat)).toNat:=by
            rw [bytesOf_drop _ hb,hv,List.drop_drop]; congr 1; omega
          have hd' : vs.drop (pieceN (s.drop a.toNat)).toNat = bytesDV (s.drop (a + pieceN (s.drop a.toNat)).toNat):=by
            rw [← hd,allB_bytes (allB_drop _ hb)]
          by_cases e:(tokAt s a).err = 0
          · have hg:lexGo s (m + 1) a out = lexGo s m (a + pieceN (s.drop a.toNat)) (out ++ [(tokAt s a).dv a]):=by simp only [lexGo,if_pos hk,if_neg b,if_neg p0,if_pos e]
            have hlim:∀ k:Nat,k = 1 → limit 40 (out.length + k) = true:=by rintro k rfl; unfold limit; rw [decide_eq_true_eq]; omega
            rw [cnd_f (by rw [e]; rfl),chk_t (by exact hlim _ rfl)]
            refine (ih (a + pieceN (s.drop a.toNat)) _ (out ++ [(tokAt s a).dv a]) (by omega) (by omega) (allB_drop _ hb) hd (by rw [List.length_append,List.length_singleton]; omega) (by omega)).trans ?_
            rw [hg]
          · have hg:lexGo s (m + 1) a out = ⟨out,a + (tokAt s a).pos,(tokAt s a).err,a + pieceN (s.drop a.toNat)⟩:=by simp only [lexGo,if_pos hk,if_neg b,if_neg p0,if_neg e]
            have w:IntKind.i64.wrap (a + (tokAt s a).pos) = a + (tokAt s a).pos:=wrap64 (by omega) (by omega)
            rw [cnd_t (by rw [decide_eq_false e]; rfl),hg,w,cnd_n e,hd']
    · have hz:vs = []:=List.eq_nil_of_length_eq_zero (by omega)
      have hg:lexGo s (m + 1) a out = ⟨out,s.length,0,s.length⟩:=by simp only [lexGo,if_neg hk]
      have ha:a = s.length:=by omega
      rw [cnd_n (by omega),hg,cnd_p rfl,hz,ha]
      have:s.drop ((s.length:Int)).toNat = []:=by simp
      rw [this]
      rfl
end Go.PS
end

section
namespace Go.PS
open Go.Proofs
theorem lps42 (F:Nat) (hF:F = FU):LpsOk (ctx F [(100,.pure S100),(101,.eff (frameT S101)),(102,.eff (frameT S102))]) L42 (loopsOf (body Tryz.f42)):=by
  refine lps_one (c:=lp Tryz.f42 0) rfl (by kernel_rfl) fun R st K r h => ?_
  unfold T42 at h
  cases hs:shape 59 [0,5,6] st.slots with
  | false => rw [hs] at h; simp [Tr.run] at h
  | true =>
  rw [hs] at h
  simp only [cond_true] at h
  have he:=shape_eq hs
  obtain ⟨sl0,H⟩:=st
  dsimp only at h he ⊢
  split at h
  · rename_i s out vs a g0 g1 g2
    simp only [List.map_cons,List.map_nil,g0,g1,g2] at he
    subst he
    simp only [Tr.run] at h
    cases hc:(decide (0 ≤ a) && decide (a ≤ s.length) && decide (s.length ≤ 2000) && allB vs && decide (bytesOf vs = s.drop a.toNat) && decide (out.length ≤ a)) with
    | false => rw [hc] at h; simp at h
    | true =>
    rw [hc] at h
    simp only [Bool.and_eq_true,decide_eq_true_eq] at hc
    obtain ⟨⟨⟨⟨⟨h0,h1⟩,h2⟩,h3⟩,h4⟩,h5⟩:=hc
    refine (loop42 F s K h2 F a vs out h0 h1 h3 h4 h5 (by rw [hF]; unfold FU; omega)).trans ?_
    rw [← h,hF]
    rfl
  · simp [Tr.run] at h
theorem lexGo_ok (s:List UInt8):∀ (m:Nat) (a:Int) (out:List DV),(lexGo s m a out).err = 0 → (lexGo s m a out).pos = s.length:=by
  intro m
  induction m with
  | zero => intro a out h; simp [lexGo] at h
  | succ m ih =>
    intro a out h
    have i1:=ih (a + 1) out
    have i2:=ih (a + pieceN (s.drop a.toNat)) (out ++ [(tokAt s a).dv a])
    clear ih
    simp only [lexGo] at h ⊢
    grind
theorem ok42 (W0:World) (hW:Laid W0):EKOk Tryz.prog W0 42 (.pure S42):=by
  refine pure_of (tyOk FU [(100,.pure S100),(101,.eff (frameT S101)),(102,.eff (frameT S102))]) (look_ok (all_cons (ok100) (all_cons (ok101 W0) (all_cons (ok102 W0 hW) all_nil)))) mixed fn42 (lps42 FU rfl) fun args r h => ?_
  unfold S42 at h
  split at h
  · rename_i s
    refine (run42 FU s).trans ?_
    rw [← h]
    simp only [Tr.val_chk,chk_some,decide_eq_true_eq] at h
    obtain ⟨h0,_⟩:=h
    simp only [Tr.val_ok,Tr.val_cnd,Tr.val_chk]
    rw [chk_p h0]
    unfold lexR
    by_cases g:2000 < s.length
    · rw [cnd_p (by omega),if_pos g,cnd_n (by simp)]
    · rw [cnd_n (by omega),if_neg g,chk_t (by simp [allB_bytesDV,bytesOf_DV]; omega)]
      by_cases e:(lexGo s FU 0 []).err = 0
      · rw [cnd_p e,cnd_p e,lexGo_ok _ _ _ _ e,e]
      · rw [cnd_n e,cnd_n e]
  · simp [Tr.val_no] at h
end Go.PS
end

section
namespace Go.PS
open Go.Proofs
theorem cnd_i {R:Type} (b:Bool) (x y:Option R):PS.cnd b x y = if b = true then x else y:=by cases b <;> rfl
theorem chk_i {R:Type} (b:Bool) (x:Option R):PS.chk b x = if b = true then x else none:=by cases b <;> rfl
theorem udec (s:List UInt8) (k:Nat):Utf8.decode ⟨s.toArray⟩ k = dec s k:=by
  rw [Lib.decode_at]
  simp only [get_bang]
  unfold dec byt
  have hs:(⟨s.toArray⟩:ByteArray).size = s.length:=by show s.toArray.size = _; simp
  rw [hs]
theorem runeN_drop (s:List UInt8) (k:Nat) (h:k < s.length):runeN (s.drop k) = ((dec s k).2:Int):=by
  unfold runeN
  rw [dec_drop s k h]
def hexDig (n:Int):UInt8:=([48,49,50,51,52,53,54,55,56,57,97,98,99,100,101,102]:List UInt8).getD n.toNat 0
def enc (r:Int):List UInt8:=(Utf8.encode r).data.toList
def writ (r:Int):List UInt8 :=
  if r = 34 ∨ r = 92 then 92 :: enc r
  else if r = 10 then [92,110]
  else if r < 32 ∨ r = 127 then [92,120,hexDig (r / 16),hexDig (r % 16)]
  else enc r
def S240:List PV → List PObj → Tr (Out × List PObj)
  | [.d (.int .i64 _),.d (.int .i32 _),.ptr 0 0],[.cells [.d (.int .i64 n)]] => .chk (decide (0 ≤ n) && decide (n ≤ big)) (.ok (.ret (.tup []),[.cells [.d (.int .i64 (n + 1))]]))
  | _,_ => .no
def S234:List PV → Tr PV
  | [.d (.int .i32 r)] => .chk (decide (0 ≤ r)) (.ok (.d (.str (writ r))))
  | _ => .no
def S233:List PV → List PObj → Tr (Out × List PObj)
  | [.d (.int .i64 _),.d (.int .i32 r),.ptr 0 0],[.cells [.own 1 l]] => .chk (decide (0 ≤ r) && decide (l.length ≤ big)) (.ok (.ret (.tup []),[.cells [.own 1 (l ++ [.str (writ r)])]]))
  | _,_ => .no
def eachR (s:List UInt8):Nat → Nat → Bool × Nat × List Int
  | 0,k => (true,k,[])
  | m + 1,k => if k < s.length then (if width s k = 0 then (false,k,[]) else ((eachR s m (k + (dec s k).2)).1,(eachR s m (k + (dec s k).2)).2.1,((dec s k).1:Int) :: (eachR s m (k + (dec s k).2)).2.2)) else (true,k,[])
def okR (s:List UInt8):Bool:=(eachR s FU 0).1
def atR (s:List UInt8):Nat:=(eachR s FU 0).2.1
def runesR (s:List UInt8):List Int:=(eachR s FU 0).2.2
def writs (l:List Int):List DV:=l.map fun r => .str (writ r)
def T259 (st:St):Tr (Ex × St) :=
  bif shape 32 [0,1,9] st.slots then
    match gt .undef st.slots 0,gt .undef st.slots 1,gt .undef st.slots 9,st.heap with
    | .d (.str s),.func 240 [.ptr 0 0],.ptr 1 0,[.cells [.d (.int .i64 n)],.iter s' pos] =>
      .chk (decide (s' = s) && decide (pos ≤ s.length) && decide (s.length ≤ big) && decide (0 ≤ n) && decide (n ≤ pos)) (.cnd (eachR s FU pos).1
        (.ok (.exit 0,⟨slots 32 [(0,.d (.str s))],[.cells [.d (.int .i64 (n + (eachR s FU pos).2.2.length))],.iter s (eachR s FU pos).2.1]⟩))
        (.ok (.pan (.iface 277 (.agg [.int .i64 (eachR s FU pos).2.1])),⟨slots 0 [],[.cells [.d (.int .i64 (n + (eachR s FU pos).2.2.length))],.iter s ((eachR s FU pos).2.1 + 1)]⟩)))
    | .d (.str s),.func 233 [.ptr 0 0],.ptr 1 0,[.cells [.own 1 l],.iter s' pos] =>
      .chk (decide (s' = s) && decide (pos ≤ s.length) && decide (s.length + 1 ≤ big) && decide (l.length ≤ pos + 1)) (.cnd (eachR s FU pos).1
        (.ok (.exit 0,⟨slots 32 [(0,.d (.str s))],[.cells [.own 1 (l ++ writs (eachR s FU pos).2.2)],.iter s (eachR s FU pos).2.1]⟩))
        (.ok (.pan (.iface 277 (.agg [.int .i64 (eachR s FU pos).2.1])),⟨slots 0 [],[.cells [.own 1 (l ++ writs (eachR s FU pos).2.2)],.iter s ((eachR s FU pos).2.1 + 1)]⟩)))
    | _,_,_,_ => .no
  else .no
def L259:Lps:=fun i => bif Nat.beq i 1 then some (allBut 32 [0,1,9],allBut 32 [0],T259) else none
def S259:List PV → List PObj → Tr (Out × List PObj)
  | [.d (.str s),.func 240 [.ptr 0 0]],[.cells [.d (.int .i64 n)]] =>
    .chk (decide (s.length ≤ big) && decide (n = 0)) (.cnd (okR s)
      (.ok (.ret (.tup []),[.cells [.d (.int .i64 (runesR s).length)]]))
      (.ok (.pan (.iface 277 (.agg [.int .i64 (atR s)])),[.cells [.d (.int .i64 (runesR s).length)]])))
  | [.d (.str s),.func 233 [.ptr 0 0]],[.cells [.own 1 l]] =>
    .chk (decide (s.length + 1 ≤ big) && decide (l.length ≤ 1)) (.cnd (okR s)
      (.ok (.ret (.tup []),[.cells [.own 1 (l ++ writs (runesR s))]]))
      (.ok (.pan (.iface 277 (.agg [.int .i64 (atR s)])),[.cells [.own 1 (l ++ writs (runesR s))]])))
  | _,_ => .no
def S258:SD:=fun md args H =>
  match md,args,H with
  | none,[.ptr 0 0],[.cells [.d (.bool b)]] => some (false,[.cells [.d (.bool b)]])
  | some (.iface 277 (.agg [.int .i64 _])),[.ptr 0 0],[.cells [.d (.bool _)]] => some (true,[.cells [.d (.bool false)]])
  | _,_,_ => none
def S232:List PV → List PObj → Tr (Out × List PObj)
  | [.d (.str s),.func 240 [.ptr 0 0]],[.cells [.d (.int .i64 n)]] =>
    .chk (decide (s.length ≤ big) && decide (n = 0)) (.ok (.ret (.d (.bool (okR s))),[.cells [.d (.int .i64 (runesR s).length)]]))
  | [.d (.str s),.func 233 [.ptr 0 0]],[.cells [.own 1 l]] =>
    .chk (decide (s.length + 1 ≤ big) && decide (l.length ≤ 1)) (.ok (.ret (.d (.bool (okR s))),[.cells [.own 1 (l ++ writs (runesR s))]]))
  | _,_ => .no
def runesN (s:List UInt8):Int:=if okR s = true then ((runesR s).length:Int) else -1
def S204:List PV → Tr PV
  | [.d (.str s)] => .chk (decide (s.length ≤ big)) (.ok (.d (.int .i64 (runesN s))))
  | _ => .no
def rightR (k n:Int) (s:List UInt8):Bool:=(decide (k = 1) && decide (s = [])) || (decide (k = 2) && decide (n = 0) && decide (s.length ≤ 40) && okR s)
def S145:List PV → Tr PV
  | [.d (.agg [.int .i64 k,.int .i64 n,.str s])] => .chk (decide (s.length ≤ big)) (.cnd (rightR k n s) (.ok (.d (.int .i64 0))) (.ok (.d (.int .i64 2))))
  | _ => .no
def allStr:List DV → Bool
  | [] => true
  | .str _ :: l => allStr l
  | _ => false
def strsOf:List DV → List (List UInt8)
  | [] => []
  | .str s :: l => s :: strsOf l
  | _ :: l => strsOf l
end Go.PS
end

section
namespace Go.PS
open Go.Proofs
set_option maxRecDepth 100000
theorem fn240:FnOk Tryz.prog 240 7 [] (body Tryz.f240):=⟨Tryz.f240,Tryz.func240,bodySome _ (by kernel_rfl),by kernel_rfl,by kernel_rfl,by kernel_rfl,by kernel_rfl⟩
theorem run240 (F:Nat) (a r n:Int):runE (ctx F []) noL 7 [] (body Tryz.f240) [.d (.int .i64 a),.d (.int .i32 r),.ptr 0 0] [.cells [.d (.int .i64 n)]] =
 Tr.val (.ok ((Out.ret (PV.tup []),[PObj.cells [.d (.int .i64 (IntKind.i64.wrap (n + 1)))]]))):=by kernel_rfl
theorem fn234:FnOk Tryz.prog 234 35 [.tmp 2] (body Tryz.f234):=⟨Tryz.f234,Tryz.func234,bodySome _ (by kernel_rfl),by kernel_rfl,by kernel_rfl,by kernel_rfl,by kernel_rfl⟩
theorem run234 (F:Nat) (r:Int):runP (ctx F []) noL 35 [.tmp 2] (body Tryz.f234) [.d (.int .i32 r)] = Tr.val (.cnd (decide (r = 34)) (.chk (decide (([92] :
 List UInt8).length + (Utf8.encode r).data.toList.length ≤ 9223372036854775807)) (.ok (PV.d (.str (([92]:List UInt8) ++ (Utf8.encode r).data.toList))))) (.cnd
 (decide (r = 92)) (.chk (decide (([92]:List UInt8).length + (Utf8.encode r).data.toList.length ≤ 9223372036854775807)) (.ok (PV.d (.str (([92]:List UInt8) ++
 (Utf8.encode r).data.toList))))) (.cnd (decide (r = 10)) (.ok (PV.d (.str ([92,110]:List UInt8)))) (.cnd (decide (r < 32)) (.chk (decide (0 ≤ r.fdiv (2 ^ min
 (Int.toNat 4) IntKind.i32.bits))) (.chk (decide ((r.fdiv (2 ^ min (Int.toNat 4) IntKind.i32.bits)).toNat < ([48,49,50,51,52,53,54,55,56,57,97,98,99,
 100,101,102]:List UInt8).length)) (.chk (decide (([92,120]:List UInt8).length + (Utf8.encode (↑(([48,49,50,51,52,53,54,55,56,57,97,98,99,100,
 101,102]:List UInt8).getD (r.fdiv (2 ^ min (Int.toNat 4) IntKind.i32.bits)).toNat 0).toNat:Int)).data.toList.length ≤ 9223372036854775807)) (.chk (decide (0
 ≤ IntKind.i32.wrap (↑(BitVec.ofInt IntKind.i32.bits r &&& BitVec.ofInt IntKind.i32.bits 15).toNat:Int))) (.chk (decide ((IntKind.i32.wrap (↑(BitVec.ofInt
 IntKind.i32.bits r &&& BitVec.ofInt IntKind.i32.bits 15).toNat:Int)).toNat < ([48,49,50,51,52,53,54,55,56,57,97,98,99,100,101,102]:List
 UInt8).length)) (.chk (decide ((([92,120]:List UInt8) ++ (Utf8.encode (↑(([48,49,50,51,52,53,54,55,56,57,97,98,99,100,101,102]:List
 UInt8).getD (r.fdiv (2 ^ min (Int.toNat 4) IntKind.i32.bits)).toNat 0).toNat:Int)).data.toList).length + (Utf8.encode (↑(([48,49,50,51,52,53,54,55,56,
 57,97,98,99,100,101,102]:List UInt8).getD (IntKind.i32.wrap (↑(BitVec.ofInt IntKind.i32.bits r &&& BitVec.ofInt IntKind.i32.bits 15).toNat:Int)).toNat
 0).toNat:Int)).data.toList.length ≤ 9223372036854775807)) (.ok (PV.d (.str (([92,120]:List UInt8) ++ (Utf8.encode (↑(([48,49,50,51,52,53,54,55,56,
 57,97,98,99,100,101,102]:List UInt8).getD (r.fdiv (2 ^ min (Int.toNat 4) IntKind.i32.bits)).toNat 0).toNat:Int)).data.toList ++ (Utf8.encode (↑(([48,
 49,50,51,52,53,54,55,56,57,97,98,99,100,101,102]:List UInt8).getD (IntKind.i32.wrap (↑(BitVec.ofInt IntKind.i32.bits r &&& BitVec.ofInt
 IntKind.i32.bits 15).toNat:Int)).toNat 0).toNat:Int)).data.toList)))))))))) (.cnd (decide (r = 127)) (.chk (decide (0 ≤ r.fdiv (2 ^ min (Int.toNat 4)
 IntKind.i32.bits))) (.chk (decide ((r.fdiv (2 ^ min (Int.toNat 4) IntKind.i32.bits)).toNat < ([48,49,50,51,52,53,54,55,56,57,97,98,99,100,101,102]
 : List UInt8).length)) (.chk (decide (([92,120]:List UInt8).length + (Utf8.encode (↑(([48,49,50,51,52,53,54,55,56,57,97,98,99,100,101,102] :
 List UInt8).getD (r.fdiv (2 ^ min (Int.toNat 4) IntKind.i32.bits)).toNat 0).toNat:Int)).data.toList.length ≤ 9223372036854775807)) (.chk (decide (0 ≤
 IntKind.i32.wrap (↑(BitVec.ofInt IntKind.i32.bits r &&& BitVec.ofInt IntKind.i32.bits 15).toNat:Int))) (.chk (decide ((IntKind.i32.wrap (↑(BitVec.ofInt
 IntKind.i32.bits r &&& BitVec.ofInt IntKind.i32.bits 15).toNat:Int)).toNat < ([48,49,50,51,52,53,54,55,56,57,97,98,99,100,101,102]:List
 UInt8).length)) (.chk (decide ((([92,120]:List UInt8) ++ (Utf8.encode (↑(([48,49,50,51,52,53,54,55,56,57,97,98,99,100,101,102]:List
 UInt8).getD (r.fdiv (2 ^ min (Int.toNat 4) IntKind.i32.bits)).toNat 0).toNat:Int)).data.toList).length + (Utf8.encode (↑(([48,49,50,51,52,53,54,55,56,
 57,97,98,99,100,101,102]:List UInt8).getD (IntKind.i32.wrap (↑(BitVec.ofInt IntKind.i32.bits r &&& BitVec.ofInt IntKind.i32.bits 15).toNat:Int)).toNat
 0).toNat:Int)).data.toList.length ≤ 9223372036854775807)) (.ok (PV.d (.str (([92,120]:List UInt8) ++ (Utf8.encode (↑(([48,49,50,51,52,53,54,55,56,
 57,97,98,99,100,101,102]:List UInt8).getD (r.fdiv (2 ^ min (Int.toNat 4) IntKind.i32.bits)).toNat 0).toNat:Int)).data.toList ++ (Utf8.encode (↑(([48,
 49,50,51,52,53,54,55,56,57,97,98,99,100,101,102]:List UInt8).getD (IntKind.i32.wrap (↑(BitVec.ofInt IntKind.i32.bits r &&& BitVec.ofInt
 IntKind.i32.bits 15).toNat:Int)).toNat 0).toNat:Int)).data.toList)))))))))) (.ok (PV.d (.str (Utf8.encode r).data.toList)))))))):=by kernel_rfl
theorem fn233:FnOk Tryz.prog 233 10 [] (body Tryz.f233):=⟨Tryz.f233,Tryz.func233,bodySome _ (by kernel_rfl),by kernel_rfl,by kernel_rfl,by kernel_rfl,by kernel_rfl⟩
theorem run233 (F:Nat) (a r:Int) (l:List DV):runE (ctx F [(234,.pure S234)]) noL 10 [] (body Tryz.f233) [.d (.int .i64 a),.d (.int .i32 r),.ptr 0 0]
 [.cells [.own 1 l]] = Tr.val (.chk (decide (0 ≤ r)) (.chk (limit 16 (l.length + (fillS (rep 1 (zeroDV ((ctx F [(55,EK.pure S234)]).ty 9))) [(0,.str (writ
 r))]).length)) (.ok ((Out.ret (PV.tup []),[PObj.cells [PV.own 1 (l ++ [.str (writ r)])]]))))):=by kernel_rfl
theorem rc258:RcOk Tryz.prog 258 10 2 1 (body Tryz.f258):=⟨⟨Tryz.f258,Tryz.func258,bodySome _ (by kernel_rfl),by kernel_rfl,by kernel_rfl,by kernel_rfl⟩,by kernel_rfl,by kernel_rfl,by kernel_rfl,by kernel_rfl,by kernel_rfl,by kernel_rfl,by kernel_rfl,of_decide_eq_true (by kernel_rfl)⟩
theorem run258 (F:Nat) (b:Bool):runR (ctx F []) noL 10 2 1 (tlS (body Tryz.f258)) none [.ptr 0 0] [.cells [.d (.bool b)]] = Tr.val (.ok ((false,
 [PObj.cells [.d (.bool b)]]))):=by kernel_rfl
theorem run258_2 (F:Nat) (b:Bool) (n:Int):runR (ctx F []) noL 10 2 1 (tlS (body Tryz.f258)) (some (.iface 277 (.agg [.int .i64 n]))) [.ptr 0 0] [.cells
 [.d (.bool b)]] = Tr.val (.ok (((some (DV.iface 277 (DV.agg [.int .i64 n]))).isSome,[PObj.cells [.d (.bool false)]]))):=by kernel_rfl
theorem round84_0a (F:Nat) {R:Type} (s:List UInt8) (pos:Nat) (n:Int) (K:Ex → St → Option R) (G:St → Option R):roundK (pcodeK (ctx F [(233,.eff
 (frameT S233)),(240,.eff (frameT S240)),(270,.pure S270)]) noL (lp Tryz.f259 0)) 2 (allBut 32 [0,1,9] ++ temps (lp Tryz.f259 0)) (allBut 32 [0]) ⟨slots 32
 [(0,.d (.str s)),(1,.func 240 [.ptr 0 0]),(9,.ptr 1 0)],[.cells [.d (.int .i64 n)],.iter s pos]⟩ K G = Tr.run (.cnd (decide (pos < s.length)) (.cnd
 (decide ((↑(Utf8.decode { data:=s.toArray } pos).fst:Int) = 65533)) (.chk (decide ((↑pos:Int) ≤ (↑s.length:Int))) (.chk (decide ((↑s.length:Int) ≤
 (↑s.length:Int))) (.cnd (decide (runeN (List.drop (↑pos:Int).toNat (List.take (↑s.length:Int).toNat s)) < 2)) (.ok (.inl (Ex.pan (DV.iface 277 (DV.agg
 [.int .i64 (↑pos:Int)])),⟨slots 0 [],[PObj.cells [.d (.int .i64 n)],PObj.iter s (pos + (Utf8.decode { data:=s.toArray } pos).snd)]⟩))) (.chk (decide (0 ≤
 n) && decide (n ≤ (↑big:Int))) (.ok (.inr ⟨slots 32 [(0,.d (.str s)),(1,PV.func 240 [PV.ptr 0 0]),(9,PV.ptr 1 0)],[PObj.cells [.d (.int .i64 (n + 1))],
 PObj.iter s (pos + (Utf8.decode { data:=s.toArray } pos).snd)]⟩)))))) (.chk (decide (0 ≤ n) && decide (n ≤ (↑big:Int))) (.ok (.inr ⟨slots 32 [(0,.d (.str
 s)),(1,PV.func 240 [PV.ptr 0 0]),(9,PV.ptr 1 0)],[PObj.cells [.d (.int .i64 (n + 1))],PObj.iter s (pos + (Utf8.decode { data:=s.toArray } pos).snd)]⟩))))
 (.ok (.inl (Ex.exit 0,⟨slots 32 [(0,.d (.str s))],[PObj.cells [.d (.int .i64 n)],PObj.iter s pos]⟩)))) (rnd K G):=by kernel_rfl
theorem round84_0b (F:Nat) {R:Type} (s:List UInt8) (pos:Nat) (l:List DV) (K:Ex → St → Option R) (G:St → Option R):roundK (pcodeK (ctx F [(233,
 .eff (frameT S233)),(240,.eff (frameT S240)),(270,.pure S270)]) noL (lp Tryz.f259 0)) 2 (allBut 32 [0,1,9] ++ temps (lp Tryz.f259 0)) (allBut 32 [0])
 ⟨slots 32 [(0,.d (.str s)),(1,.func 233 [.ptr 0 0]),(9,.ptr 1 0)],[.cells [.own 1 l],.iter s pos]⟩ K G = Tr.run (.cnd (decide (pos < s.length)) (.cnd
 (decide ((↑(Utf8.decode { data:=s.toArray } pos).fst:Int) = 65533)) (.chk (decide ((↑pos:Int) ≤ (↑s.length:Int))) (.chk (decide ((↑s.length:Int) ≤
 (↑s.length:Int))) (.cnd (decide (runeN (List.drop (↑pos:Int).toNat (List.take (↑s.length:Int).toNat s)) < 2)) (.ok (.inl (Ex.pan (DV.iface 277 (DV.agg
 [.int .i64 (↑pos:Int)])),⟨slots 0 [],[PObj.cells [PV.own 1 l],PObj.iter s (pos + (Utf8.decode { data:=s.toArray } pos).snd)]⟩))) (.chk (decide (0 ≤
 (↑(Utf8.decode { data:=s.toArray } pos).fst:Int)) && decide (l.length ≤ big)) (.ok (.inr ⟨slots 32 [(0,.d (.str s)),(1,PV.func 233 [PV.ptr 0 0]),(9,
 PV.ptr 1 0)],[PObj.cells [PV.own 1 (l ++ [.str (writ (↑(Utf8.decode { data:=s.toArray } pos).fst:Int))])],PObj.iter s (pos + (Utf8.decode { data :=
 s.toArray } pos).snd)]⟩)))))) (.chk (decide (0 ≤ (↑(Utf8.decode { data:=s.toArray } pos).fst:Int)) && decide (l.length ≤ big)) (.ok (.inr ⟨slots 32 [(0,.d
 (.str s)),(1,PV.func 233 [PV.ptr 0 0]),(9,PV.ptr 1 0)],[PObj.cells [PV.own 1 (l ++ [.str (writ (↑(Utf8.decode { data:=s.toArray } pos).fst:Int))])],
 PObj.iter s (pos + (Utf8.decode { data:=s.toArray } pos).snd)]⟩)))) (.ok (.inl (Ex.exit 0,⟨slots 32 [(0,.d (.str s))],[PObj.cells [PV.own 1 l],PObj.iter s
 pos]⟩)))) (rnd K G):=by kernel_rfl
theorem fn259:FnOk Tryz.prog 259 32 [] (body Tryz.f259):=⟨Tryz.f259,Tryz.func259,bodySome _ (by kernel_rfl),by kernel_rfl,by kernel_rfl,by kernel_rfl,by kernel_rfl⟩
theorem run259 (F:Nat) (s:List UInt8) (n:Int):runE (ctx F [(233,.eff (frameT S233)),(240,.eff (frameT S240)),(270,.pure S270)]) L259 32 [] (body
 Tryz.f259) [.d (.str s),.func 240 [.ptr 0 0]] [.cells [.d (.int .i64 n)]] = Tr.val (.chk (decide (s = s) && decide (0 ≤ s.length) && decide (s.length ≤ big) &&
 decide (0 ≤ n) && decide (n ≤ (↑0:Int))) (.cnd ((eachR s FU 0).fst) (.ok ((Out.ret (PV.tup []),[PObj.cells [.d (.int .i64 (n + (↑(eachR s FU 0).snd.snd.length
 : Int)))]]))) (.ok ((Out.pan (DV.iface 277 (DV.agg [.int .i64 (↑(eachR s FU 0).snd.fst:Int)])),[PObj.cells [.d (.int .i64 (n + (↑(eachR s FU 0).snd.snd.length
 : Int)))]]))))):=by kernel_rfl
theorem run259_2 (F:Nat) (s:List UInt8) (l:List DV):runE (ctx F [(233,.eff (frameT S233)),(240,.eff (frameT S240)),(270,.pure S270)]) L259 32 []
 (body Tryz.f259) [.d (.str s),.func 233 [.ptr 0 0]] [.cells [.own 1 l]] = Tr.val (.chk (decide (s = s) && decide (0 ≤ s.length) && decide (s.length + 1 ≤ big)
 && decide (l.length ≤ 0 + 1)) (.cnd ((eachR s FU 0).fst) (.ok ((Out.ret (PV.tup []),[PObj.cells [PV.own 1 (l ++ writs (eachR s FU 0).snd.snd)]]))) (.ok
 ((Out.pan (DV.iface 277 (DV.agg [.int .i64 (↑(eachR s FU 0).snd.fst:Int)])),[PObj.cells [PV.own 1 (l ++ writs (eachR s FU 0).snd.snd)]]))))):=by kernel_rfl
theorem fn232:FnOk Tryz.prog 232 9 [.cell 4 4] (body Tryz.f232):=⟨Tryz.f232,Tryz.func232,bodySome _ (by kernel_rfl),by kernel_rfl,by kernel_rfl,by kernel_rfl,by kernel_rfl⟩
theorem df232:DfOk (body Tryz.f232) 1 5:=⟨by kernel_rfl,by kernel_rfl,by kernel_rfl,by kernel_rfl,by kernel_rfl⟩
theorem run232 (F:Nat) (s:List UInt8) (n:Int):runDE (ctx F [(259,.eff (frameT S259))]) noL 9 [.cell 4 4] (headsC 1 (body Tryz.f232)) (opAt (hdS (dropC 1
 (body Tryz.f232))) 0) 5 258 (tlS (dropC 1 (body Tryz.f232))) (frameD S258) [.d (.str s),.func 240 [.ptr 0 0]] [.cells [.d (.int .i64 n)]] = Tr.val (.chk (decide
 (s.length ≤ big) && decide (n = 0)) (.cnd (okR s) (.ok ((Out.ret (PV.d (.bool true)),[PObj.cells [.d (.int .i64 (↑(runesR s).length:Int))]]))) (.ok ((Out.ret
 (PV.d (.bool false)),[PObj.cells [.d (.int .i64 (↑(runesR s).length:Int))]]))))):=by kernel_rfl
theorem run232_2 (F:Nat) (s:List UInt8) (l:List DV):runDE (ctx F [(259,.eff (frameT S259))]) noL 9 [.cell 4 4] (headsC 1 (body Tryz.f232)) (opAt (hdS
 (dropC 1 (body Tryz.f232))) 0) 5 258 (tlS (dropC 1 (body Tryz.f232))) (frameD S258) [.d (.str s),.func 233 [.ptr 0 0]] [.cells [.own 1 l]] = Tr.val (.chk
 (decide (s.length + 1 ≤ big) && decide (l.length ≤ 1)) (.cnd (okR s) (.ok ((Out.ret (PV.d (.bool true)),[PObj.cells [PV.own 1 (l ++ writs (runesR s))]]))) (.ok
 ((Out.ret (PV.d (.bool false)),[PObj.cells [PV.own 1 (l ++ writs (runesR s))]]))))):=by kernel_rfl
theorem fn204:FnOk Tryz.prog 204 9 [.tmp 2] (body Tryz.f204):=⟨Tryz.f204,Tryz.func204,bodySome _ (by kernel_rfl),by kernel_rfl,by kernel_rfl,by kernel_rfl,by kernel_rfl⟩
theorem run204 (F:Nat) (s:List UInt8):runP (ctx F [(232,.eff (frameT S232))]) noL 9 [.tmp 2] (body Tryz.f204) [.d (.str s)] = Tr.val (.chk (decide
 (s.length ≤ big) && decide (0 = 0)) (.cnd (!okR s) (.ok (PV.d (.int .i64 (Int.negSucc 0)))) (.ok (PV.d (.int .i64 (↑(runesR s).length:Int)))))):=by
 kernel_rfl
theorem fn145x:FnOk Tryz.prog 145 27 [.tmp 2] (body Tryz.f145):=⟨Tryz.f145,Tryz.func145,bodySome _ (by kernel_rfl),by kernel_rfl,by kernel_rfl,by kernel_rfl,by kernel_rfl⟩
theorem run145x (F:Nat) (k n:Int) (s:List UInt8):runP (ctx F [(204,.pure S204)]) noL 27 [.tmp 2] (body Tryz.f145) [.d (.agg [.int .i64 k,.int .i64 n,
 .str s])] = Tr.val (.cnd (decide (k = 1)) (.cnd (decide (s = ([]:List UInt8))) (.ok (PV.d (.int .i64 (0)))) (.ok (PV.d (.int .i64 (2))))) (.cnd (decide (k =
 2)) (.cnd (decide (n = 0)) (.cnd (decide ((↑s.length:Int) ≤ 40)) (.chk (decide (s.length ≤ big)) (.cnd (decide (runesN s ≥ 0)) (.ok (PV.d (.int .i64 (0))))
 (.ok (PV.d (.int .i64 (2)))))) (.ok (PV.d (.int .i64 (2))))) (.ok (PV.d (.int .i64 (2))))) (.ok (PV.d (.int .i64 (2)))))):=by kernel_rfl
end Go.PS
end

section
namespace Go.PS
open Go.Proofs
theorem enc_len (r:Int):(enc r).length ≤ 4:=by
  unfold enc Utf8.encode
  dsimp only
  repeat' split
  all_goals simp [Utf8.runeError]
  all_goals (repeat' split) <;> simp
set_option maxRecDepth 100000 in
theorem lowRune:∀ n:Fin 128,(n.val < 32 ∨ n.val = 127) →
    (0 ≤ (n.val:Int).fdiv (2 ^ min (Int.toNat 4) IntKind.i32.bits)) ∧ ((n.val:Int).fdiv (2 ^ min (Int.toNat 4) IntKind.i32.bits)).toNat < 16 ∧
    0 ≤ IntKind.i32.wrap (↑(BitVec.ofInt IntKind.i32.bits (n.val:Int) &&& BitVec.ofInt IntKind.i32.bits 15).toNat:Int) ∧
    (IntKind.i32.wrap (↑(BitVec.ofInt IntKind.i32.bits (n.val:Int) &&& BitVec.ofInt IntKind.i32.bits 15).toNat:Int)).toNat < 16 ∧
    (Utf8.encode (↑(([48,49,50,51,52,53,54,55,56,57,97,98,99,100,101,102]:List UInt8).getD ((n.val:Int).fdiv (2 ^ min (Int.toNat 4) IntKind.i32.bits)).toNat 0).toNat:Int)).data.toList = [hexDig ((n.val:Int) / 16)] ∧
    (Utf8.encode (↑(([48,49,50,51,52,53,54,55,56,57,97,98,99,100,101,102]:List UInt8).getD (IntKind.i32.wrap (↑(BitVec.ofInt IntKind.i32.bits (n.val:Int) &&& BitVec.ofInt IntKind.i32.bits 15).toNat:Int)).toNat 0).toNat:Int)).data.toList = [hexDig ((n.val:Int) % 16)]:=by decide
theorem ok240 (W0:World):EKOk Tryz.prog W0 240 (.eff (frameT S240)):=by
  refine eff_of (tyOk 0 []) (look_ok all_nil) mixed fn240 (lpsOk_no _ _) fun args H r h => ?_
  unfold S240 at h
  split at h
  · rename_i a r0 n
    refine (run240 0 a r0 n).trans ?_
    rw [← h]
    simp only [Tr.val_chk,chk_some,Bool.and_eq_true,decide_eq_true_eq] at h
    obtain ⟨⟨h0,h1⟩,_⟩:=h
    unfold big at h1
    have w:IntKind.i64.wrap (n + 1) = n + 1:=wrap64 (by omega) (by omega)
    simp only [Tr.val_ok,Tr.val_chk,w]
    rw [chk_t (by unfold big; simp only [Bool.and_eq_true,decide_eq_true_eq]; omega)]
  · simp [Tr.val_no] at h
theorem ok234 (W0:World):EKOk Tryz.prog W0 234 (.pure S234):=by
  refine pure_of (tyOk 0 []) (look_ok all_nil) mixed fn234 (lpsOk_no _ _) fun args r h => ?_
  unfold S234 at h
  split at h
  · rename_i r0
    refine (run234 0 r0).trans ?_
    rw [← h]
    simp only [Tr.val_chk,chk_some,decide_eq_true_eq] at h
    obtain ⟨h0,_⟩:=h
    have he:=enc_len r0
    unfold enc at he
    simp only [Tr.val_ok,Tr.val_cnd,Tr.val_chk]
    rw [chk_p h0]
    have hl1:([92]:List UInt8).length + (Utf8.encode r0).data.toList.length ≤ 9223372036854775807:=by rw [List.length_singleton]; omega
    simp only [chk_p hl1]
    unfold writ enc
    by_cases c1:r0 = 34
    · rw [cnd_p c1,if_pos (Or.inl c1)]; rfl
    · rw [cnd_n c1]
      by_cases c2:r0 = 92
      · rw [cnd_p c2,if_pos (Or.inr c2)]; rfl
      · rw [cnd_n c2,if_neg (by omega)]
        by_cases c3:r0 = 10
        · rw [cnd_p c3,if_pos c3]
        · rw [cnd_n c3,if_neg c3]
          by_cases g:r0 < 32 ∨ r0 = 127
          · rw [if_pos g]
            obtain ⟨n,rfl⟩:=Int.eq_ofNat_of_zero_le h0
            obtain ⟨f1,f2,f3,f4,f5,f6⟩:=lowRune ⟨n,by omega⟩ (by show n < 32 ∨ n = 127; omega)
            dsimp only at f1 f2 f3 f4 f5 f6
            have e1:∀ x:UInt8,([92,120]:List UInt8).length + [x].length ≤ 9223372036854775807:=fun x => by simp
            have e2:∀ x y:UInt8,(([92,120]:List UInt8) ++ [x]).length + [y].length ≤ 9223372036854775807:=fun x y => by simp
            have l16:([48,49,50,51,52,53,54,55,56,57,97,98,99,100,101,102]:List UInt8).length = 16:=rfl
            simp only [f5,f6,l16]
            by_cases c4:(n:Int) < 32
            · rw [cnd_p c4,chk_p f1,chk_p f2,chk_p (e1 _),chk_p f3,chk_p f4,chk_p (e2 _ _)]; rfl
            · rw [cnd_n c4,cnd_p (by omega),chk_p f1,chk_p f2,chk_p (e1 _),chk_p f3,chk_p f4,chk_p (e2 _ _)]; rfl
          · rw [if_neg g,cnd_n (by omega),cnd_n (by omega)]
  · simp [Tr.val_no] at h
theorem ok233 (W0:World):EKOk Tryz.prog W0 233 (.eff (frameT S233)):=by
  refine eff_of (tyOk 0 [(234,.pure S234)]) (look_ok (all_cons (ok234 W0) all_nil)) mixed fn233 (lpsOk_no _ _) fun args H r h => ?_
  unfold S233 at h
  split at h
  · rename_i a r0 l
    refine (run233 0 a r0 l).trans ?_
    rw [← h]
    simp only [Tr.val_chk,chk_some,Bool.and_eq_true,decide_eq_true_eq] at h
    obtain ⟨⟨h0,h1⟩,_⟩:=h
    unfold big at h1
    have hlim:∀ k:Nat,k = 1 → limit 16 (l.length + k) = true:=by rintro k rfl; unfold limit; rw [decide_eq_true_eq]; omega
    simp only [Tr.val_ok,Tr.val_chk]
    rw [chk_p h0,chk_t (by exact hlim _ rfl),chk_t (by unfold big; simp only [Bool.and_eq_true,decide_eq_true_eq]; omega)]
  · simp [Tr.val_no] at h
end Go.PS
end

section
namespace Go.PS
open Go.Proofs
theorem writs_cons (r:Int) (l:List Int):writs (r :: l) = .str (writ r) :: writs l:=rfl
theorem loop259a (F:Nat) {R:Type} (s:List UInt8) (K:Ex → St → Option R) (hs:s.length ≤ 1000000) :
    ∀ (m k:Nat) (n:Int),k ≤ s.length → 0 ≤ n → n ≤ k → s.length - k < m →
      loopK (pcodeK (ctx F [(233,.eff (frameT S233)),(240,.eff (frameT S240)),(270,.pure S270)]) noL (lp Tryz.f259 0)) 2 (allBut 32 [0,1,9] ++ temps (lp Tryz.f259 0)) (allBut 32 [0]) m
        ⟨slots 32 [(0,.d (.str s)),(1,.func 240 [.ptr 0 0]),(9,.ptr 1 0)],[.cells [.d (.int .i64 n)],.iter s k]⟩ K =
      PS.cnd (eachR s m k).1
        (K (.exit 0) ⟨slots 32 [(0,.d (.str s))],[.cells [.d (.int .i64 (n + (eachR s m k).2.2.length))],.iter s (eachR s m k).2.1]⟩)
        (K (.pan (.iface 277 (.agg [.int .i64 (eachR s m k).2.1]))) ⟨slots 0 [],[.cells [.d (.int .i64 (n + (eachR s m k).2.2.length))],.iter s ((eachR s m k).2.1 + 1)]⟩):=by
  intro m
  induction m with
  | zero => intro k n _ _ _ hm; omega
  | succ m ih =>
    intro k n hk h0 h1 hm
    rw [loopK_succ,round84_0a]
    simp only [Tr.run,rnd,udec]
    by_cases hlt:k < s.length
    · have e0:List.drop (k:Int).toNat (List.take ((s.length:Nat):Int).toNat s) = s.drop k:=by simp
      have hc:(decide (0 ≤ n) && decide (n ≤ (big:Int))) = true:=by unfold big; simp only [Bool.and_eq_true,decide_eq_true_eq]; omega
      rw [cnd_p hlt,e0,runeN_drop s k hlt,chk_t hc]
      have g1:(k:Int) ≤ (s.length:Int):=by omega
      have g2:(s.length:Int) ≤ (s.length:Int):=by omega
      have step:¬ width s k = 0 → k + (dec s k).2 ≤ s.length → 1 ≤ (dec s k).2 → loopK (pcodeK (ctx F [(233,.eff (frameT S233)),(240,.eff (frameT S240)),(270,.pure S270)]) noL (lp Tryz.f259 0)) 2 (allBut 32 [0,1,9] ++ temps (lp Tryz.f259 0)) (allBut 32 [0]) m
        ⟨slots 32 [(0,.d (.str s)),(1,.func 240 [.ptr 0 0]),(9,.ptr 1 0)],[.cells [.d (.int .i64 (n + 1))],.iter s (k + (dec s k).2)]⟩ K =
          PS.cnd (eachR s (m + 1) k).1
        (K (.exit 0) ⟨slots 32 [(0,.d (.str s))],[.cells [.d (.int .i64 (n + (eachR s (m + 1) k).2.2.length))],.iter s (eachR s (m + 1) k).2.1]⟩)
        (K (.pan (.iface 277 (.agg [.int .i64 (eachR s (m + 1) k).2.1]))) ⟨slots 0 [],[.cells [.d (.int .i64 (n + (eachR s (m + 1) k).2.2.length))],.iter s ((eachR s (m + 1) k).2.1 + 1)]⟩):=by
        intro hw hd h1
        rw [ih (k + (dec s k).2) (n + 1) hd (by omega) (by omega) (by omega)]
        have e1:eachR s (m + 1) k = ((eachR s m (k + (dec s k).2)).1,(eachR s m (k + (dec s k).2)).2.1,((dec s k).1:Int) :: (eachR s m (k + (dec s k).2)).2.2):=by simp only [eachR,if_pos hlt,if_neg hw]
        rw [e1]
        have e2:n + 1 + ((eachR s m (k + (dec s k).2)).2.2.length:Int) = n + ((((dec s k).1:Int) :: (eachR s m (k + (dec s k).2)).2.2).length:Int):=by rw [List.length_cons]; omega
        rw [e2]
      rcases dec_cases s k hlt with ⟨hb,hd,hw⟩ | ⟨hb,hd,hw⟩ | ⟨hb,h1',h2,h3,hw⟩
      · rw [cnd_n (by rw [hd]; show ¬ ((byt s k:Nat):Int) = 65533; omega)]
        exact step (by omega) (by rw [hd]; show k + 1 ≤ _; omega) (by rw [hd]; exact Nat.le_refl _)
      · have hg:eachR s (m + 1) k = (false,k,[]):=by simp only [eachR,if_pos hlt,if_pos hw]
        rw [cnd_p (by rw [hd]; rfl),chk_p g1,chk_p g2,cnd_p (by rw [hd]; decide),hg,hd]
        simp only [cnd_ff,List.length_nil,Int.natCast_zero,Int.add_zero]
      · by_cases c:(((dec s k).1:Nat):Int) = 65533
        · rw [cnd_p c,chk_p g1,chk_p g2,cnd_n (by omega)]
          exact step (by omega) (by omega) (by omega)
        · rw [cnd_n c]
          exact step (by omega) (by omega) (by omega)
    · have hg:eachR s (m + 1) k = (true,k,[]):=by simp only [eachR,if_neg hlt]
      rw [cnd_n hlt,hg]
      simp only [cnd_tt,List.length_nil,Int.natCast_zero,Int.add_zero]
theorem loop259b (F:Nat) {R:Type} (s:List UInt8) (K:Ex → St → Option R) (hs:s.length + 1 ≤ 1000000) :
    ∀ (m k:Nat) (l:List DV),k ≤ s.length → l.length ≤ k + 1 → s.length - k < m →
      loopK (pcodeK (ctx F [(233,.eff (frameT S233)),(240,.eff (frameT S240)),(270,.pure S270)]) noL (lp Tryz.f259 0)) 2 (allBut 32 [0,1,9] ++ temps (lp Tryz.f259 0)) (allBut 32 [0]) m
        ⟨slots 32 [(0,.d (.str s)),(1,.func 233 [.ptr 0 0]),(9,.ptr 1 0)],[.cells [.own 1 l],.iter s k]⟩ K =
      PS.cnd (eachR s m k).1
        (K (.exit 0) ⟨slots 32 [(0,.d (.str s))],[.cells [.own 1 (l ++ writs (eachR s m k).2.2)],.iter s (eachR s m k).2.1]⟩)
        (K (.pan (.iface 277 (.agg [.int .i64 (eachR s m k).2.1]))) ⟨slots 0 [],[.cells [.own 1 (l ++ writs (eachR s m k).2.2)],.iter s ((eachR s m k).2.1 + 1)]⟩):=by
  intro m
  induction m with
  | zero => intro k l _ _ hm; omega
  | succ m ih =>
    intro k l hk h1 hm
    rw [loopK_succ,round84_0b]
    simp only [Tr.run,rnd,udec]
    by_cases hlt:k < s.length
    · have e0:List.drop (k:Int).toNat (List.take ((s.length:Nat):Int).toNat s) = s.drop k:=by simp
      have hc:(decide (0 ≤ (((dec s k).1:Nat):Int)) && decide (l.length ≤ big)) = true:=by unfold big; simp only [Bool.and_eq_true,decide_eq_true_eq]; omega
      rw [cnd_p hlt,e0,runeN_drop s k hlt,chk_t hc]
      have g1:(k:Int) ≤ (s.length:Int):=by omega
      have g2:(s.length:Int) ≤ (s.length:Int):=by omega
      have step:¬ width s k = 0 → k + (dec s k).2 ≤ s.length → 1 ≤ (dec s k).2 → loopK (pcodeK (ctx F [(233,.eff (frameT S233)),(240,.eff (frameT S240)),(270,.pure S270)]) noL (lp Tryz.f259 0)) 2 (allBut 32 [0,1,9] ++ temps (lp Tryz.f259 0)) (allBut 32 [0]) m
        ⟨slots 32 [(0,.d (.str s)),(1,.func 233 [.ptr 0 0]),(9,.ptr 1 0)],[.cells [.own 1 (l ++ [.str (writ ((dec s k).1:Int))])],.iter s (k + (dec s k).2)]⟩ K =
          PS.cnd (eachR s (m + 1) k).1
        (K (.exit 0) ⟨slots 32 [(0,.d (.str s))],[.cells [.own 1 (l ++ writs (eachR s (m + 1) k).2.2)],.iter s (eachR s (m + 1) k).2.1]⟩)
        (K (.pan (.iface 277 (.agg [.int .i64 (eachR s (m + 1) k).2.1]))) ⟨slots 0 [],[.cells [.own 1 (l ++ writs (eachR s (m + 1) k).2.2)],.iter s ((eachR s (m + 1) k).2.1 + 1)]⟩):=by
        intro hw hd h1
        rw [ih (k + (dec s k).2) (l ++ [DV.str (writ ((dec s k).1:Int))]) hd (by rw [List.length_append,List.length_singleton]; omega) (by omega)]
        have e1:eachR s (m + 1) k = ((eachR s m (k + (dec s k).2)).1,(eachR s m (k + (dec s k).2)).2.1,((dec s k).1:Int) :: (eachR s m (k + (dec s k).2)).2.2):=by simp only [eachR,if_pos hlt,if_neg hw]
        rw [e1]
        simp only [writs_cons,List.append_assoc,List.singleton_append]
      rcases dec_cases s k hlt with ⟨hb,hd,hw⟩ | ⟨hb,hd,hw⟩ | ⟨hb,h1',h2,h3,hw⟩
      · rw [cnd_n (by rw [hd]; show ¬ ((byt s k:Nat):Int) = 65533; omega)]
        exact step (by omega) (by rw [hd]; show k + 1 ≤ _; omega) (by rw [hd]; exact Nat.le_refl _)
      · have hg:eachR s (m + 1) k = (false,k,[]):=by simp only [eachR,if_pos hlt,if_pos hw]
        rw [cnd_p (by rw [hd]; rfl),chk_p g1,chk_p g2,cnd_p (by rw [hd]; decide),hg,hd]
        simp only [cnd_ff,writs,List.map_nil,List.append_nil]
      · by_cases c:(((dec s k).1:Nat):Int) = 65533
        · rw [cnd_p c,chk_p g1,chk_p g2,cnd_n (by omega)]
          exact step (by omega) (by omega) (by omega)
        · rw [cnd_n c]
          exact step (by omega) (by omega) (by omega)
    · have hg:eachR s (m + 1) k = (true,k,[]):=by simp only [eachR,if_neg hlt]
      rw [cnd_n hlt,hg]
      simp only [cnd_tt,writs,List.map_nil,List.append_nil]
end Go.PS
end

section
namespace Go.PS
open Go.Proofs
theorem lps259 (F:Nat) (hF:F = FU):LpsOk (ctx F [(233,.eff (frameT S233)),(240,.eff (frameT S240)),(270,.pure S270)]) L259 (loopsOf (body Tryz.f259)):=by
  refine lps_one (c:=lp Tryz.f259 0) rfl (by kernel_rfl) fun R st K r h => ?_
  unfold T259 at h
  cases hs:shape 32 [0,1,9] st.slots with
  | false => rw [hs] at h; simp [Tr.run] at h
  | true =>
  rw [hs] at h
  simp only [cond_true] at h
  have he:=shape_eq hs
  obtain ⟨sl0,H⟩:=st
  dsimp only at h he ⊢
  split at h
  · rename_i s n s' pos g0 g1 g9
    simp only [List.map_cons,List.map_nil,g0,g1,g9] at he
    subst he
    simp only [Tr.run] at h
    cases hc:(decide (s' = s) && decide (pos ≤ s.length) && decide (s.length ≤ big) && decide (0 ≤ n) && decide (n ≤ pos)) with
    | false => rw [hc] at h; simp at h
    | true =>
    rw [hc] at h
    simp only [Bool.and_eq_true,decide_eq_true_eq] at hc
    obtain ⟨⟨⟨⟨h0,h1⟩,h2⟩,h3⟩,h4⟩:=hc
    subst h0
    unfold big at h2
    refine (loop259a F s' K h2 F pos n h1 h3 h4 (by rw [hF]; unfold FU; omega)).trans ?_
    rw [← h,hF]
    rfl
  · rename_i s l s' pos g0 g1 g9
    simp only [List.map_cons,List.map_nil,g0,g1,g9] at he
    subst he
    simp only [Tr.run] at h
    cases hc:(decide (s' = s) && decide (pos ≤ s.length) && decide (s.length + 1 ≤ big) && decide (l.length ≤ pos + 1)) with
    | false => rw [hc] at h; simp at h
    | true =>
    rw [hc] at h
    simp only [Bool.and_eq_true,decide_eq_true_eq] at hc
    obtain ⟨⟨⟨h0,h1⟩,h2⟩,h3⟩:=hc
    subst h0
    unfold big at h2
    refine (loop259b F s' K h2 F pos l h1 h3 (by rw [hF]; unfold FU; omega)).trans ?_
    rw [← h,hF]
    rfl
  · simp [Tr.run] at h
theorem ok259 (W0:World) (hW:Laid W0):EKOk Tryz.prog W0 259 (.eff (frameT S259)):=by
  refine eff_of (tyOk FU [(233,.eff (frameT S233)),(240,.eff (frameT S240)),(270,.pure S270)]) (look_ok (all_cons (ok233 W0) (all_cons (ok240 W0) (all_cons (ok270 hW) all_nil)))) mixed fn259 (lps259 FU rfl) fun args H r h => ?_
  unfold S259 at h
  split at h
  · rename_i s n
    refine (run259 FU s n).trans ?_
    rw [← h]
    simp only [Tr.val_chk,chk_some,Bool.and_eq_true,decide_eq_true_eq] at h
    obtain ⟨h0,rfl⟩:=h.1
    simp only [Tr.val_ok,Tr.val_cnd,Tr.val_chk,okR,runesR,atR,Int.zero_add]
    rw [chk_t (by simp [h0]),chk_t (by simp [h0])]
  · rename_i s l
    refine (run259_2 FU s l).trans ?_
    rw [← h]
    simp only [Tr.val_chk,chk_some,Bool.and_eq_true,decide_eq_true_eq] at h
    obtain ⟨h0,h1⟩:=h.1
    simp only [Tr.val_ok,Tr.val_cnd,Tr.val_chk,okR,runesR,atR]
    rw [chk_t (by simp [h0,h1]),chk_t (by simp [h0,h1])]
  · simp [Tr.val_no] at h
theorem ok258 (W0:World):SoundD Tryz.prog W0 258 (frameD S258):=by
  refine SoundD.frame (recov_of (tyOk 0 []) (look_ok all_nil) mixed rc258 (lpsOk_no _ _) fun m args H r h => ?_)
  unfold S258 at h
  split at h
  · rename_i b
    exact (run258 0 b).trans h
  · rename_i n b
    exact (run258_2 0 b n).trans h
  · simp at h
theorem ok232 (W0:World) (hW:Laid W0):EKOk Tryz.prog W0 232 (.eff (frameT S232)):=by
  refine effD_of (tyOk 0 [(259,.eff (frameT S259))]) (look_ok (all_cons (ok259 W0 hW) all_nil)) mixed fn232 (lpsOk_no _ _) df232 (ok258 W0) fun args H r h => ?_
  unfold S232 at h
  split at h
  · rename_i s n
    refine (run232 0 s n).trans ?_
    rw [← h]
    simp only [Tr.val_ok,Tr.val_cnd,Tr.val_chk]
    cases okR s <;> rfl
  · rename_i s l
    refine (run232_2 0 s l).trans ?_
    rw [← h]
    simp only [Tr.val_ok,Tr.val_cnd,Tr.val_chk]
    cases okR s <;> rfl
  · simp [Tr.val_no] at h
theorem ok204 (W0:World) (hW:Laid W0):EKOk Tryz.prog W0 204 (.pure S204):=by
  refine pure_of (tyOk 0 [(232,.eff (frameT S232))]) (look_ok (all_cons (ok232 W0 hW) all_nil)) mixed fn204 (lpsOk_no _ _) fun args r h => ?_
  unfold S204 at h
  split at h
  · rename_i s
    refine (run204 0 s).trans ?_
    rw [← h]
    simp only [Tr.val_chk,chk_some,decide_eq_true_eq] at h
    simp only [Tr.val_ok,Tr.val_cnd,Tr.val_chk,runesN]
    rw [chk_t (by simp [h.1]),chk_p h.1]
    cases okR s <;> rfl
  · simp [Tr.val_no] at h
theorem ok145 (W0:World) (hW:Laid W0):EKOk Tryz.prog W0 145 (.pure S145):=by
  refine pure_of (tyOk 0 [(204,.pure S204)]) (look_ok (all_cons (ok204 W0 hW) all_nil)) mixed fn145x (lpsOk_no _ _) fun args r h => ?_
  unfold S145 at h
  split at h
  · rename_i k n s
    refine (run145x 0 k n s).trans ?_
    rw [← h]
    simp only [Tr.val_chk,chk_some,decide_eq_true_eq] at h
    have hl:(0:Int) ≤ (runesR s).length:=by omega
    have hr:(runesN s ≥ 0) ↔ okR s = true:=by unfold runesN; split <;> simp_all
    have h40:((s.length:Int) ≤ 40) ↔ s.length ≤ 40:=by omega
    simp only [Tr.val_ok,Tr.val_cnd,Tr.val_chk,cnd_i,chk_i,decide_eq_true_eq,hr,h40,h.1,rightR,Bool.or_eq_true,Bool.and_eq_true]
    grind
  · simp [Tr.val_no] at h
end Go.PS
end

section
namespace Go.PS
open Go.Proofs
def T214 (st:St):Tr (Ex × St) :=
  bif shape 21 [0,3,4] st.slots then
    match gt .undef st.slots 0,gt .undef st.slots 3,gt .undef st.slots 4,st.heap with
    | .d (.str s),.d (.int .i64 n),.d (.int .i64 a),[] =>
      .chk (decide (0 ≤ a) && decide (a ≤ s.length) && decide (s.length ≤ big) && decide (0 ≤ n) && decide (n ≤ a)) (.cnd (eachR s FU a.toNat).1
        (.ok (.exit 0,⟨slots 21 [(0,.d (.str s)),(3,.d (.int .i64 (n + (eachR s FU a.toNat).2.2.length)))],[]⟩))
        (.ok (.ret,⟨slots 21 [(0,.d (.str s)),(2,.d (.int .i64 (-1))),(3,.d (.int .i64 (n + (eachR s FU a.toNat).2.2.length)))],[]⟩)))
    | _,_,_,_ => .no
  else .no
def L214:Lps:=fun i => bif Nat.beq i 3 then some (allBut 21 [0,3,4],allBut 21 [0,2,3],T214) else none
def S154:List PV → Tr PV
  | [.d (.agg [.int .i64 k,.int .i64 n,.str s])] => .chk (decide (s.length ≤ big)) (.ok (.d (.bool (rightR k n s))))
  | _ => .no
end Go.PS
end

section
namespace Go.PS
open Go.Proofs
set_option maxRecDepth 100000
theorem round214_0 (F:Nat) {R:Type} (s:List UInt8) (n a:Int) (K:Ex → St → Option R) (G:St → Option R):roundK (pcodeK (ctx F [(243,.pure S243)])
 noL (lp Tryz.f214 0)) 0 (allBut 21 [0,3,4] ++ temps (lp Tryz.f214 0)) (allBut 21 [0,2,3]) ⟨slots 21 [(0,.d (.str s)),(3,.d (.int .i64 n)),(4,.d (.int
 .i64 a))],[]⟩ K G = Tr.run (.cnd (decide (a < (↑s.length:Int))) (.chk (decide (0 ≤ a) && decide (a + 4 < lim)) (.cnd (decide (width s a = 0)) (.ok (.inl
 (Ex.ret,⟨slots 21 [(0,.d (.str s)),(2,.d (.int .i64 (Int.negSucc 0))),(3,.d (.int .i64 n))],[]⟩))) (.ok (.inr ⟨slots 21 [(0,.d (.str s)),(3,.d (.int
 .i64 (IntKind.i64.wrap (n + 1)))),(4,.d (.int .i64 (IntKind.i64.wrap (a + width s a))))],[]⟩)))) (.ok (.inl (Ex.exit 0,⟨slots 21 [(0,.d (.str s)),(3,.d
 (.int .i64 n))],[]⟩)))) (rnd K G):=by kernel_rfl
theorem fn214:FnOk Tryz.prog 214 21 [.tmp 2] (body Tryz.f214):=⟨Tryz.f214,Tryz.func214,bodySome _ (by kernel_rfl),by kernel_rfl,by kernel_rfl,by kernel_rfl,by kernel_rfl⟩
theorem run214 (F:Nat) (s:List UInt8):runP (ctx F [(243,.pure S243)]) L214 21 [.tmp 2] (body Tryz.f214) [.d (.str s)] = Tr.val (.chk (decide (0 ≤ 0) &&
 decide (0 ≤ (↑s.length:Int)) && decide (s.length ≤ big) && decide (0 ≤ 0) && decide (0 ≤ 0)) (.cnd ((eachR s FU (Int.toNat 0)).fst) (.ok (PV.d (.int .i64 (0 +
 (↑(eachR s FU (Int.toNat 0)).snd.snd.length:Int))))) (.ok (PV.d (.int .i64 (Int.negSucc 0)))))):=by kernel_rfl
theorem fn154:FnOk Tryz.prog 154 33 [.tmp 2] (body Tryz.f154):=⟨Tryz.f154,Tryz.func154,bodySome _ (by kernel_rfl),by kernel_rfl,by kernel_rfl,by kernel_rfl,by kernel_rfl⟩
theorem run154 (F:Nat) (k n:Int) (s:List UInt8):runP (ctx F [(214,.pure S204)]) noL 33 [.tmp 2] (body Tryz.f154) [.d (.agg [.int .i64 k,.int .i64 n,
 .str s])] = Tr.val (.cnd (decide (k = 1)) (.cnd (decide (s = ([]:List UInt8))) (.ok (PV.d (.bool true))) (.cnd (decide (k = 2)) (.cnd (decide (n = 0)) (.cnd
 (decide ((↑s.length:Int) ≤ 40)) (.chk (decide (s.length ≤ big)) (.ok (PV.d (.bool (decide (runesN s ≥ 0)))))) (.ok (PV.d (.bool false)))) (.ok (PV.d (.bool
 false)))) (.ok (PV.d (.bool false))))) (.cnd (decide (k = 2)) (.cnd (decide (n = 0)) (.cnd (decide ((↑s.length:Int) ≤ 40)) (.chk (decide (s.length ≤ big)) (.ok
 (PV.d (.bool (decide (runesN s ≥ 0)))))) (.ok (PV.d (.bool false)))) (.ok (PV.d (.bool false)))) (.ok (PV.d (.bool false))))):=by kernel_rfl
end Go.PS
end

section
namespace Go.PS
open Go.Proofs
theorem loop214 (F:Nat) {R:Type} (s:List UInt8) (K:Ex → St → Option R) (hs:s.length ≤ 1000000) :
    ∀ (m k:Nat) (n:Int),k ≤ s.length → 0 ≤ n → n ≤ k → s.length - k < m →
      loopK (pcodeK (ctx F [(243,.pure S243)]) noL (lp Tryz.f214 0)) 0 (allBut 21 [0,3,4] ++ temps (lp Tryz.f214 0)) (allBut 21 [0,2,3]) m
        ⟨slots 21 [(0,.d (.str s)),(3,.d (.int .i64 n)),(4,.d (.int .i64 k))],[]⟩ K =
      PS.cnd (eachR s m k).1
        (K (.exit 0) ⟨slots 21 [(0,.d (.str s)),(3,.d (.int .i64 (n + (eachR s m k).2.2.length)))],[]⟩)
        (K .ret ⟨slots 21 [(0,.d (.str s)),(2,.d (.int .i64 (-1))),(3,.d (.int .i64 (n + (eachR s m k).2.2.length)))],[]⟩):=by
  intro m
  induction m with
  | zero => intro k n _ _ _ hm; omega
  | succ m ih =>
    intro k n hk h0 h1 hm
    rw [loopK_succ,round214_0]
    simp only [Tr.run,rnd]
    by_cases hlt:k < s.length
    · rw [cnd_p (by omega),chk_t (lim_ok (by omega) (by omega))]
      have wn:IntKind.i64.wrap (n + 1) = n + 1:=wrap64 (by omega) (by omega)
      by_cases hw:width s k = 0
      · have hg:eachR s (m + 1) k = (false,k,[]):=by simp only [eachR,if_pos hlt,if_pos hw]
        rw [cnd_p hw,hg]
        simp only [cnd_ff,List.length_nil,Int.natCast_zero,Int.add_zero]
        rfl
      · have hd:width s k = ((dec s k).2:Int) ∧ k + (dec s k).2 ≤ s.length ∧ 1 ≤ (dec s k).2:=by
          rcases dec_cases s k hlt with ⟨hb,hd,hw'⟩ | ⟨hb,hd,hw'⟩ | ⟨hb,_,h2,h3,hw'⟩
          · rw [hd,hw']; simp; omega
          · exact absurd hw' hw
          · rw [hw']; omega
        obtain ⟨d1,d2,d3⟩:=hd
        have wk:IntKind.i64.wrap ((k:Int) + width s k) = ((k + (dec s k).2:Nat):Int):=by rw [d1]; exact (wrap64 (by omega) (by omega)).trans (by omega)
        have e1:eachR s (m + 1) k = ((eachR s m (k + (dec s k).2)).1,(eachR s m (k + (dec s k).2)).2.1,((dec s k).1:Int) :: (eachR s m (k + (dec s k).2)).2.2):=by simp only [eachR,if_pos hlt,if_neg hw]
        have e2:n + 1 + ((eachR s m (k + (dec s k).2)).2.2.length:Int) = n + ((((dec s k).1:Int) :: (eachR s m (k + (dec s k).2)).2.2).length:Int):=by rw [List.length_cons]; omega
        rw [cnd_n hw,wn,wk,ih (k + (dec s k).2) (n + 1) d2 (by omega) (by omega) (by omega),e1,e2]
    · have hg:eachR s (m + 1) k = (true,k,[]):=by simp only [eachR,if_neg hlt]
      rw [cnd_n (by omega),hg]
      simp only [cnd_tt,List.length_nil,Int.natCast_zero,Int.add_zero]
theorem lps214 (F:Nat) (hF:F = FU):LpsOk (ctx F [(243,.pure S243)]) L214 (loopsOf (body Tryz.f214)):=by
  refine lps_one (c:=lp Tryz.f214 0) rfl (by kernel_rfl) fun R st K r h => ?_
  unfold T214 at h
  cases hs:shape 21 [0,3,4] st.slots with
  | false => rw [hs] at h; simp [Tr.run] at h
  | true =>
  rw [hs] at h
  simp only [cond_true] at h
  have he:=shape_eq hs
  obtain ⟨sl0,H⟩:=st
  dsimp only at h he ⊢
  split at h
  · rename_i s n a g0 g1 g2
    simp only [List.map_cons,List.map_nil,g0,g1,g2] at he
    subst he
    simp only [Tr.run] at h
    cases hc:(decide (0 ≤ a) && decide (a ≤ s.length) && decide (s.length ≤ big) && decide (0 ≤ n) && decide (n ≤ a)) with
    | false => rw [hc] at h; simp at h
    | true =>
    rw [hc] at h
    simp only [Bool.and_eq_true,decide_eq_true_eq] at hc
    obtain ⟨⟨⟨⟨h0,h1⟩,h2⟩,h3⟩,h4⟩:=hc
    unfold big at h2
    obtain ⟨k,rfl⟩:=Int.eq_ofNat_of_zero_le h0
    refine (loop214 F s K h2 F k n (by omega) h3 h4 (by rw [hF]; unfold FU; omega)).trans ?_
    rw [← h,hF]
    rfl
  · simp [Tr.run] at h
theorem ok214 (W0:World):EKOk Tryz.prog W0 214 (.pure S204):=by
  refine pure_of (tyOk FU [(243,.pure S243)]) (look_ok (all_cons (ok243 W0) all_nil)) mixed fn214 (lps214 FU rfl) fun args r h => ?_
  unfold S204 at h
  split at h
  · rename_i s
    refine (run214 FU s).trans ?_
    rw [← h]
    simp only [Tr.val_chk,chk_some,decide_eq_true_eq] at h
    have h0:=h.1
    simp only [Tr.val_ok,Tr.val_cnd,Tr.val_chk,Int.zero_add]
    rw [chk_p h0,chk_t (by simp [h0])]
    unfold runesN okR runesR
    have e:Int.toNat 0 = 0:=rfl
    rw [e]
    cases (eachR s FU 0).1 <;> rfl
  · simp [Tr.val_no] at h
theorem runesN_iff (s:List UInt8):(runesN s ≥ 0) ↔ okR s = true:=by
  have hl:(0:Int) ≤ (runesR s).length:=by omega
  unfold runesN; split <;> simp_all
theorem ok154 (W0:World):EKOk Tryz.prog W0 154 (.pure S154):=by
  refine pure_of (tyOk 0 [(214,.pure S204)]) (look_ok (all_cons (ok214 W0) all_nil)) mixed fn154 (lpsOk_no _ _) fun args r h => ?_
  unfold S154 at h
  split at h
  · rename_i k n s
    refine (run154 0 k n s).trans ?_
    rw [← h]
    simp only [Tr.val_chk,chk_some,decide_eq_true_eq] at h
    have hr:=runesN_iff s
    have h40:((s.length:Int) ≤ 40) ↔ s.length ≤ 40:=by omega
    have hd:decide (runesN s ≥ 0) = okR s:=by rw [Bool.eq_iff_iff,decide_eq_true_eq]; exact hr
    simp only [Tr.val_ok,Tr.val_cnd,Tr.val_chk,cnd_i,chk_i,decide_eq_true_eq,hd,h40,h.1,rightR]
    by_cases c1:k = 1 <;> by_cases c2:s = [] <;> by_cases c3:k = 2 <;> by_cases c4:n = 0 <;> by_cases c5:s.length ≤ 40 <;> simp [c1,c2,c3,c4,c5] <;> simp_all
  · simp [Tr.val_no] at h
end Go.PS
end

section
namespace Go.PS
open Go.Proofs
theorem ek_mono {P:Program} {W0:World} {f:Nat} {S S' : List PV → Tr PV} (h:EKOk P W0 f (.pure S)) (hm:∀ args v,(S' args).val = some v → (S args).val = some v):EKOk P W0 f (.pure S') :=
  ⟨h.enters,fun args v hv => h.calls args v (hm args v hv)⟩
def rightE (k n:Int) (s:List UInt8):Int:=if rightR k n s = true then 0 else 2
def S145u:List PV → Tr PV
  | [.d (.agg [.int .i64 k,.int .i64 n,.str s])] => .chk (decide (s.length ≤ big)) (.ok (.d (.int .i64 (rightE k n s))))
  | _ => .no
theorem ok145u (W0:World) (hW:Laid W0):EKOk Tryz.prog W0 145 (.pure S145u):=ek_mono (ok145 W0 hW) fun args v h => by
  unfold S145u at h
  split at h
  · rename_i k n s
    rw [← h]
    unfold S145 rightE
    simp only [Tr.val_ok,Tr.val_chk,Tr.val_cnd]
    congr 1
    cases rightR k n s <;> rfl
  · simp [Tr.val_no] at h
end Go.PS
end

section
namespace Go.PS
open Go.Proofs
theorem chr_at {s:List UInt8} {n:Nat} {c:UInt8} {t:List UInt8} (h:s.drop n = c :: t):chr s (n:Int) = (c.toNat:Int) ∧ n < s.length ∧ s.drop (n + 1) = t:=by
  have hl:n < s.length:=by
    rcases Nat.lt_or_ge n s.length with h1 | h1
    · exact h1
    · rw [List.drop_eq_nil_of_le h1] at h; cases h
  rw [drop_cons s n hl] at h
  injection h with h1 h2
  exact ⟨by rw [chr_k,h1],hl,h2⟩
theorem byt_at {s:List UInt8} {n:Nat} {l:List UInt8} (h:s.drop n = l) (j:Nat):byt s (n + j) = (l.getD j 0).toNat:=by
  subst h
  unfold byt
  congr 1
  simp [List.getD_eq_getElem?_getD,List.getElem?_drop]
theorem decN_ext (n n' b0 b1 b2 b3 c1 c2 c3:Nat) (h:2 ≤ (Lib.decodeN n b0 b1 b2 b3).2) (hn:(Lib.decodeN n b0 b1 b2 b3).2 ≤ n') (h1:c1 = b1) (h2:3 ≤ (Lib.decodeN n b0 b1 b2 b3).2 → c2 = b2) (h3:4 ≤ (Lib.decodeN n b0 b1 b2 b3).2 → c3 = b3) :
    Lib.decodeN n' b0 c1 c2 c3 = Lib.decodeN n b0 b1 b2 b3:=by
  subst h1
  unfold Lib.decodeN at h hn h2 h3 ⊢
  grind
theorem dec_ext {q s rest:List UInt8} {p k:Nat} (h:2 ≤ (dec q p).2) (hq:(dec q p).2 ≤ q.length - p) (hs:s.drop k = (q.drop p).take (dec q p).2 ++ rest):dec s k = dec q p:=by
  have hlen:(dec q p).2 ≤ s.length - k:=by
    have:=congrArg List.length hs
    rw [List.length_append,List.length_take,List.length_drop,List.length_drop] at this
    omega
  have hb:∀ j,j < (dec q p).2 → byt s (k + j) = byt q (p + j):=by
    intro j hj
    rw [byt_at hs j,byt_at (rfl:q.drop p = q.drop p) j]
    congr 1
    simp only [List.getD_eq_getElem?_getD]
    rw [List.getElem?_append_left (by rw [List.length_take,List.length_drop]; omega),List.getElem?_take,if_pos hj]
  have e0:=hb 0 (by omega)
  have:=decN_ext (q.length - p) (s.length - k) (byt q p) (byt q (p + 1)) (byt q (p + 2)) (byt q (p + 3)) (byt s (k + 1)) (byt s (k + 2)) (byt s (k + 3)) h hlen (hb 1 (by exact h)) (fun h3 => hb 2 h3) (fun h4 => hb 3 h4)
  show Lib.decodeN (s.length - k) (byt s k) (byt s (k + 1)) (byt s (k + 2)) (byt s (k + 3)) = _
  rw [show byt s k = byt q p from e0]
  exact this
end Go.PS
end

section
namespace Go.PS
open Go.Proofs
inductive Val8:List UInt8 → Prop
  | nil:Val8 []
  | one (c:UInt8) (t:List UInt8) (h:c.toNat < 128) (v:Val8 t):Val8 (c :: t)
  | more (q:List UInt8) (p:Nat) (t:List UInt8) (h:2 ≤ (dec q p).2) (hq:(dec q p).2 ≤ q.length - p) (hc:128 ≤ (dec q p).1) (v:Val8 t):Val8 ((q.drop p).take (dec q p).2 ++ t)
theorem width_dec {s:List UInt8} {k:Nat} (hk:k < s.length) (h:2 ≤ (dec s k).2):width s k = ((dec s k).2:Int):=by
  rcases dec_cases s k hk with ⟨_,hd,_⟩ | ⟨_,hd,_⟩ | ⟨_,_,_,_,hw⟩
  · rw [hd] at h; simp at h
  · rw [hd] at h; simp at h
  · exact hw
theorem val_each {u:List UInt8} (v:Val8 u):∀ (s:List UInt8) (k m:Nat),s.drop k = u → k ≤ s.length → u.length < m → (eachR s m k).1 = true:=by
  induction v with
  | nil =>
    intro s k m h hk hm
    obtain ⟨m,rfl⟩:∃ q,m = q + 1:=⟨m - 1,by simp at hm; omega⟩
    have:¬ k < s.length:=by
      intro hl
      have:=congrArg List.length h
      rw [List.length_drop] at this; simp at this; omega
    simp only [eachR,if_neg this]
  | one c t hc v ih =>
    intro s k m h hk hm
    obtain ⟨m,rfl⟩:∃ q,m = q + 1:=⟨m - 1,by simp at hm; omega⟩
    obtain ⟨h1,h2,h3⟩:=chr_at h
    have hb:byt s k = c.toNat:=byt_at h 0
    have hd:dec s k = (byt s k,1) ∧ width s k = 1:=by
      rcases dec_cases s k h2 with ⟨_,hd,hw⟩ | ⟨h,_,_⟩ | ⟨h,_⟩
      · exact ⟨hd,hw⟩
      · omega
      · omega
    simp only [eachR,if_pos h2,hd.2,if_neg (show ¬ (1:Int) = 0 by decide),hd.1]
    exact ih s (k + 1) m h3 (by omega) (by simp at hm; omega)
  | more q p t h2 hq hc v ih =>
    intro s k m h hk hm
    obtain ⟨m,rfl⟩:∃ q,m = q + 1:=⟨m - 1,by omega⟩
    have hlen:=congrArg List.length h
    rw [List.length_append,List.length_take,List.length_drop,List.length_drop] at hlen
    rw [List.length_append,List.length_take,List.length_drop] at hm
    have hd:=dec_ext h2 hq h
    have hlt:k < s.length:=by omega
    have hw:=width_dec hlt (by rw [hd]; exact h2)
    simp only [eachR,if_pos hlt,if_neg (show ¬ width s k = 0 by rw [hw,hd]; omega)]
    refine ih s (k + (dec s k).2) m ?_ (by rw [hd]; omega) (by omega)
    rw [← List.drop_drop,h,hd,List.drop_append]
    rw [List.drop_of_length_le (by rw [List.length_take,List.length_drop]; omega)]
    rw [List.length_take,List.length_drop,show (dec q p).2 - min (dec q p).2 (q.length - p) = 0 by omega]
    rfl
theorem val_ok {u:List UInt8} (v:Val8 u) (h:u.length ≤ big):okR u = true:=by
  unfold okR
  exact val_each v u 0 FU rfl (Nat.zero_le _) (by unfold big at h; unfold FU; omega)
end Go.PS
end

section
namespace Go.PS
open Go.Proofs
def wordTo (s:List UInt8):Nat → Int → Bool
  | 0,_ => true
  | m + 1,i => if i < s.length then (if smallB (chr s i) = true ∨ (i ≠ 0 ∧ isDigit (chr s i) = true) then wordTo s m (i + 1) else false) else true
def wordB (s:List UInt8):Bool:=wordTo s FU 0 && decide (s ≠ [])
def rightT (k n:Int) (s:List UInt8):Bool :=
  (decide (k = 1) && decide (n = 0) && decide ((s.length:Int) ≤ 12) && wordB s) || (decide (k = 2) && decide (s = [])) || (decide (k = 3) && decide (n = 0) && rightR 2 0 s) ||
  (decide (k = 4) && decide (s = []) && decide (0 < n)) || (decide (k = 5) && decide (n = 0) && markB s)
def tokRight (k n a:Int) (s:List UInt8):Bool:=decide (0 ≤ a) && rightT k n s
def tokE (k n a:Int) (s:List UInt8):Int:=if tokRight k n a s = true then 0 else 2
def T209 (st:St):Tr (Ex × St) :=
  bif shape 31 [0,7,8] st.slots then
    match gt .undef st.slots 0,gt .undef st.slots 7,gt .undef st.slots 8,st.heap with
    | .d (.str s),.d (.int .i64 l),.d (.int .i64 i),[] =>
      .chk (decide (0 ≤ i) && decide (i ≤ s.length) && decide (s.length ≤ big) && decide (l = s.length)) (.cnd (wordTo s FU i)
        (.ok (.exit 0,⟨slots 31 [(0,.d (.str s))],[]⟩))
        (.ok (.ret,⟨slots 31 [(0,.d (.str s)),(2,.d (.bool false))],[]⟩)))
    | _,_,_,_ => .no
  else .no
def L209:Lps:=fun i => bif Nat.beq i 2 then some (allBut 31 [0,7,8],allBut 31 [0,2],T209) else none
def T153 (st:St):Tr (Ex × St) :=
  bif shape 28 [0,3] st.slots then
    match gt .undef st.slots 0,gt .undef st.slots 3,st.heap with
    | .d (.str s),.d (.int .i64 i),[] =>
      .chk (decide (0 ≤ i) && decide (i ≤ s.length) && decide (s.length ≤ big)) (.cnd (wordTo s FU i)
        (.ok (.exit 0,⟨slots 28 [(0,.d (.str s))],[]⟩))
        (.ok (.ret,⟨slots 28 [(0,.d (.str s)),(2,.d (.bool false))],[]⟩)))
    | _,_,_ => .no
  else .no
def L153:Lps:=fun i => bif Nat.beq i 2 then some (allBut 28 [0,3],allBut 28 [0,2],T153) else none
def S209:List PV → Tr PV
  | [.d (.str s)] => .chk (decide (s.length ≤ big)) (.ok (.d (.bool (wordB s))))
  | _ => .no
def S150:List PV → Tr PV
  | [.d (.agg [.int .i64 k,.str s,.int .i64 n,.int .i64 _])] => .chk (decide (s.length ≤ big)) (.ok (.d (.bool (rightT k n s))))
  | _ => .no
def S86:List PV → Tr PV
  | [.d (.agg [.int .i64 k,.str s,.int .i64 n,.int .i64 a])] => .chk (decide (s.length ≤ big)) (.ok (.d (.bool (tokRight k n a s))))
  | _ => .no
def S84:List PV → Tr PV
  | [.d (.agg [.int .i64 k,.str s,.int .i64 n,.int .i64 a])] => .chk (decide (s.length ≤ big)) (.ok (.d (.int .i64 (tokE k n a s))))
  | _ => .no
end Go.PS
end

section
namespace Go.PS
open Go.Proofs
set_option maxRecDepth 100000
theorem round209_0 (F:Nat) {R:Type} (s:List UInt8) (l i:Int) (K:Ex → St → Option R) (G:St → Option R):roundK (pcodeK (ctx F [(228,.pure S228)])
 noL (lp Tryz.f209 0)) 0 (allBut 31 [0,7,8] ++ temps (lp Tryz.f209 0)) (allBut 31 [0,2]) ⟨slots 31 [(0,.d (.str s)),(7,.d (.int .i64 l)),(8,.d (.int .i64
 i))],[]⟩ K G = Tr.run (.cnd (decide (i < l)) (.chk (decide (0 ≤ i)) (.chk (decide (i.toNat < s.length)) (.cnd (!(decide (97 ≤ (↑(s.getD i.toNat 0).toNat:Int))
 && decide ((↑(s.getD i.toNat 0).toNat:Int) ≤ 122))) (.cnd (decide (i = 0)) (.ok (.inl (Ex.ret,⟨slots 31 [(0,.d (.str s)),(2,.d (.bool false))],[]⟩)))
 (.cnd (!isDigit (↑(s.getD i.toNat 0).toNat:Int)) (.ok (.inl (Ex.ret,⟨slots 31 [(0,.d (.str s)),(2,.d (.bool false))],[]⟩))) (.ok (.inr ⟨slots 31 [(0,.d
 (.str s)),(7,.d (.int .i64 l)),(8,.d (.int .i64 (IntKind.i64.wrap (i + 1))))],[]⟩)))) (.ok (.inr ⟨slots 31 [(0,.d (.str s)),(7,.d (.int .i64 l)),(8,.d
 (.int .i64 (IntKind.i64.wrap (i + 1))))],[]⟩))))) (.ok (.inl (Ex.exit 0,⟨slots 31 [(0,.d (.str s))],[]⟩)))) (rnd K G):=by kernel_rfl
theorem fn209:FnOk Tryz.prog 209 31 [.tmp 2] (body Tryz.f209):=⟨Tryz.f209,Tryz.func209,bodySome _ (by kernel_rfl),by kernel_rfl,by kernel_rfl,by kernel_rfl,by kernel_rfl⟩
theorem run209 (F:Nat) (s:List UInt8):runP (ctx F [(228,.pure S228)]) L209 31 [.tmp 2] (body Tryz.f209) [.d (.str s)] = Tr.val (.chk (decide (0 ≤ 0) &&
 decide (0 ≤ (↑s.length:Int)) && decide (s.length ≤ big) && decide ((↑s.length:Int) = (↑s.length:Int))) (.cnd (wordTo s FU 0) (.ok (PV.d (.bool !decide (s =
 ([]:List UInt8))))) (.ok (PV.d (.bool false))))):=by kernel_rfl
theorem round153_0 (F:Nat) {R:Type} (s:List UInt8) (i:Int) (K:Ex → St → Option R) (G:St → Option R):roundK (pcodeK (ctx F [(212,.pure S212),(213,
 .pure S213)]) noL (lp Tryz.f153 0)) 0 (allBut 28 [0,3] ++ temps (lp Tryz.f153 0)) (allBut 28 [0,2]) ⟨slots 28 [(0,.d (.str s)),(3,.d (.int .i64 i))],[]⟩ K
 G = Tr.run (.cnd (decide (i < (↑s.length:Int))) (.chk (decide (0 ≤ i)) (.chk (decide (i.toNat < s.length)) (.cnd (!smallB (↑(s.getD i.toNat 0).toNat:Int))
 (.cnd (decide (i = 0)) (.ok (.inl (Ex.ret,⟨slots 28 [(0,.d (.str s)),(2,.d (.bool false))],[]⟩))) (.chk (decide (0 ≤ i)) (.chk (decide (i.toNat < s.length))
 (.cnd (!isDigit (↑(s.getD i.toNat 0).toNat:Int)) (.ok (.inl (Ex.ret,⟨slots 28 [(0,.d (.str s)),(2,.d (.bool false))],[]⟩))) (.ok (.inr ⟨slots 28 [(0,.d
 (.str s)),(3,.d (.int .i64 (IntKind.i64.wrap (i + 1))))],[]⟩)))))) (.ok (.inr ⟨slots 28 [(0,.d (.str s)),(3,.d (.int .i64 (IntKind.i64.wrap (i + 1))))],
 []⟩))))) (.ok (.inl (Ex.exit 0,⟨slots 28 [(0,.d (.str s))],[]⟩)))) (rnd K G):=by kernel_rfl
theorem fn153:FnOk Tryz.prog 153 28 [.tmp 2] (body Tryz.f153):=⟨Tryz.f153,Tryz.func153,bodySome _ (by kernel_rfl),by kernel_rfl,by kernel_rfl,by kernel_rfl,by kernel_rfl⟩
theorem run153 (F:Nat) (s:List UInt8):runP (ctx F [(212,.pure S212),(213,.pure S213)]) L153 28 [.tmp 2] (body Tryz.f153) [.d (.str s)] = Tr.val (.chk
 (decide (0 ≤ 0) && decide (0 ≤ (↑s.length:Int)) && decide (s.length ≤ big)) (.cnd (wordTo s FU 0) (.ok (PV.d (.bool !decide (s = ([]:List UInt8))))) (.ok
 (PV.d (.bool false))))):=by kernel_rfl
theorem fn150:FnOk Tryz.prog 150 58 [.tmp 2] (body Tryz.f150):=⟨Tryz.f150,Tryz.func150,bodySome _ (by kernel_rfl),by kernel_rfl,by kernel_rfl,by kernel_rfl,by kernel_rfl⟩
theorem run150 (F:Nat) (k n a:Int) (s:List UInt8):runP (ctx F [(145,.pure S145u),(209,.pure S209),(210,.pure S210)]) noL 58 [.tmp 2] (body
 Tryz.f150) [.d (.agg [.int .i64 k,.str s,.int .i64 n,.int .i64 a])] = Tr.val (.cnd (decide (k = 1)) (.cnd (decide (n = 0)) (.cnd (decide ((↑s.length:Int) ≤
 12)) (.chk (decide (s.length ≤ big)) (.ok (PV.d (.bool (wordB s))))) (.ok (PV.d (.bool false)))) (.ok (PV.d (.bool false)))) (.cnd (decide (k = 2)) (.ok (PV.d
 (.bool (decide (s = ([]:List UInt8)))))) (.cnd (decide (k = 3)) (.cnd (decide (n = 0)) (.chk (decide (s.length ≤ big)) (.ok (PV.d (.bool (decide (rightE 2 0 s
 = 0)))))) (.ok (PV.d (.bool false)))) (.cnd (decide (k = 4)) (.cnd (decide (s = ([]:List UInt8))) (.ok (PV.d (.bool (decide (n > 0))))) (.ok (PV.d (.bool
 false)))) (.cnd (decide (k = 5)) (.cnd (decide (n = 0)) (.ok (PV.d (.bool (markB s)))) (.ok (PV.d (.bool false)))) (.ok (PV.d (.bool false)))))))):=by
 kernel_rfl
theorem fn86:FnOk Tryz.prog 86 60 [.tmp 2] (body Tryz.f86):=⟨Tryz.f86,Tryz.func86,bodySome _ (by kernel_rfl),by kernel_rfl,by kernel_rfl,by kernel_rfl,by kernel_rfl⟩
theorem run86 (F:Nat) (k n a:Int) (s:List UInt8):runP (ctx F [(154,.pure S154),(155,.pure S210),(153,.pure S209)]) noL 60 [.tmp 2] (body Tryz.f86)
 [.d (.agg [.int .i64 k,.str s,.int .i64 n,.int .i64 a])] = Tr.val (.cnd (decide (a < 0)) (.ok (PV.d (.bool false))) (.cnd (decide (k = 1)) (.cnd (decide (n =
 0)) (.chk (decide (s.length ≤ big)) (.cnd (wordB s) (.ok (PV.d (.bool (decide ((↑s.length:Int) ≤ 12))))) (.ok (PV.d (.bool false))))) (.ok (PV.d (.bool
 false)))) (.cnd (decide (k = 2)) (.ok (PV.d (.bool (decide (s = ([]:List UInt8)))))) (.cnd (decide (k = 3)) (.cnd (decide (n = 0)) (.chk (decide (s.length ≤
 big)) (.ok (PV.d (.bool (rightR 2 0 s))))) (.ok (PV.d (.bool false)))) (.cnd (decide (k = 4)) (.cnd (decide (s = ([]:List UInt8))) (.ok (PV.d (.bool (decide (n
 ≥ 1))))) (.ok (PV.d (.bool false)))) (.cnd (decide (k = 5)) (.cnd (decide (n = 0)) (.ok (PV.d (.bool (markB s)))) (.ok (PV.d (.bool false)))) (.ok (PV.d (.bool
 false))))))))):=by kernel_rfl
theorem fn84:FnOk Tryz.prog 84 11 [.tmp 2] (body Tryz.f84):=⟨Tryz.f84,Tryz.func84,bodySome _ (by kernel_rfl),by kernel_rfl,by kernel_rfl,by kernel_rfl,by kernel_rfl⟩
theorem run84 (F:Nat) (k n a:Int) (s:List UInt8):runP (ctx F [(150,.pure S150)]) noL 11 [.tmp 2] (body Tryz.f84) [.d (.agg [.int .i64 k,.str s,.int
 .i64 n,.int .i64 a])] = Tr.val (.cnd (decide (a < 0)) (.ok (PV.d (.int .i64 (2)))) (.chk (decide (s.length ≤ big)) (.cnd (!rightT k n s) (.ok (PV.d (.int .i64
 (2)))) (.ok (PV.d (.int .i64 (0))))))):=by kernel_rfl
end Go.PS
end

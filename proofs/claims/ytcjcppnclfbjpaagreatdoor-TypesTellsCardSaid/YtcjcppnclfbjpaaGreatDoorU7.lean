/- PROVED: for any columns, any query and any name the law TypesTells of layer 18 returns true (Source, Find, Check, Step and Query tell what the specification tells, with the places of faults), and the arguments read afterwards as they read before.
   CONDITIONS: those of the given row and card; no others. -/
import Derived.Test.YtcjcppnclfbjpaaGreatDoorU0
import Derived.Test.YtcjcppnclfbjpaaGreatDoorU1
import Derived.Test.YtcjcppnclfbjpaaGreatDoorU2
import Derived.Test.YtcjcppnclfbjpaaGreatDoorU3
import Derived.Test.YtcjcppnclfbjpaaGreatDoorU4
import Derived.Test.YtcjcppnclfbjpaaGreatDoorU5
import Derived.Test.YtcjcppnclfbjpaaGreatDoorU6
import Derived.Test.YtcjcppnclfbjpaaGreatDoorCards
set_option linter.all false
section
namespace Go.Proofs.YtcjcppnclfbjpaaGreatDoor
open Go
theorem typesTells_card:Rows.TypesTellsCardSaid :=
  Claim7.holds_tied_plain_at .later [] [.data, .data, .data, .data, .sentinel, .sentinel, .pinned] true (true, "aebe2295ba4c7ebb28cd2e8660bbdf8793b722673adf2fd070e444e71d0bc54f") true
    typesTells_holds (fun _ h => by cases h) (by kernel_rfl) (fun _ h => by cases h) typesTells_row_tie rfl ⟨rfl,rfl⟩ (by kernel_rfl) rfl
    (fun f fn hf hfn => by
      obtain rfl : f = 3 := Option.some.inj ((show Tryz.prog.funcNamed "fasti/fastilaw18.TypesTells" = some 3 by kernel_rfl).symm.trans hf) |>.symm
      obtain rfl:fn = Tryz.f3:=(Option.some.inj (Tryz.func3.symm.trans hfn)).symm
      exact ⟨by kernel_rfl,fun j t ht => by
        rw [Tryz.params3] at ht
        rcases j with _ | _ | _ | j
        · obtain rfl:t = 22:=by simpa using ht.symm
          exact (show Tryz.prog.wantsStandIn 22 = false by kernel_rfl)
        · obtain rfl:t = 30:=by simpa using ht.symm
          exact (show Tryz.prog.wantsStandIn 30 = false by kernel_rfl)
        · obtain rfl:t = 9:=by simpa using ht.symm
          exact (show Tryz.prog.wantsStandIn 9 = false by kernel_rfl)
        · simp at ht⟩)
    (by kernel_rfl)
#print axioms typesTells_card
end Go.Proofs.YtcjcppnclfbjpaaGreatDoor
end

/- The proof, part 40 of 50. -/
import Derived.Test.YtkdjbebgdoohjaaGreatDoorHistoryOrderN
import Derived.Test.YtkdjbebgdoohjaaGreatDoorHistoryOrderQ
import Derived.Shelf.Sort.Plain
import Derived.Shelf.Slices.In.SortNone
import Derived.Shelf.Slices.CompactS
set_option linter.all false
namespace Go.Proofs.YtkdjbebgdoohjaaGreatDoor.Ls
open Eng Go.Sort Go.RowKit Go.Shelf
set_option maxRecDepth 10000
abbrev sortL (l:List Bs):List Bs:=l.mergeSort λx y=>decide (x<=y)
end Go.Proofs.YtkdjbebgdoohjaaGreatDoor.Ls

/- The proof, part 37 of 51. -/
import Derived.Test.YtgghhaahnpbnmaaGreatDoorCartularyWalksN
import Derived.Test.YtgghhaahnpbnmaaGreatDoorCartularyWalksQ
import Derived.Shelf.Sort.Plain
import Derived.Shelf.Slices.In.SortNone
import Derived.Shelf.Slices.CompactS
set_option linter.all false
namespace Go.Proofs.YtgghhaahnpbnmaaGreatDoor.Ls
open Eng Go.Sort Go.RowKit Go.Shelf
set_option maxRecDepth 10000
abbrev sortL (l:List Bs):List Bs:=l.mergeSort λx y=>decide (x<=y)
end Go.Proofs.YtgghhaahnpbnmaaGreatDoor.Ls

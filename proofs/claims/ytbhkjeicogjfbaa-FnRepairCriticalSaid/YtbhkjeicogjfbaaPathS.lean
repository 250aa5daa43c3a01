/- l1Without, l2Path, RepairPath and l2Two of the reference. Conditions: the graph is valid, or at most 1048576 links. -/
import Derived.Test.YtbhkjeicogjfbaaHopS
import Derived.Test.YtbhkjeicogjfbaaPathI
import Derived.Test.YtbhkjeicogjfbaaOkS
import Derived.Deep.RegionLaw
namespace Go.Proofs.Ytbhkjeicogjfbaa
open Go.RowKit

end Go.Proofs.Ytbhkjeicogjfbaa

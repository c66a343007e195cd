/- rostrumlaw07.BtreeRange: for every input the law returns true, and each argument reads afterwards as it read before. No condition. -/
import Derived.Test.YtheeomjfpnijbaaGreatDoorZLa
import Derived.Test.YtheeomjfpnijbaaGreatDoorZRg
set_option linter.unusedVariables false
namespace Go.Proofs.YtheeomjfpnijbaaGreatDoor.btreeRange
open Go.RowKit
theorem proved:Rows.BtreeRangeCardSaid:=proved_of btreeRange_walk
#print axioms proved
end Go.Proofs.YtheeomjfpnijbaaGreatDoor.btreeRange

/- What RollAsks asks of its argument. -/
import Derived.Test.YtlgbmjdlgjdolaaDoorEvSum
import Derived.Test.YtlgbmjdlgjdolaaDoorRows
import Derived.Lib.LaidTab
import Derived.KernelRfl
import Derived.Test.YtlgbmjdlgjdolaaDoorRollAsksS0
namespace Go.Proofs.YtlgbmjdlgjdolaaDoor
open Go.RowKit
namespace rollAsksRun
def nes : List (List UInt8) := [[97, 100, 99], [97, 110, 116, 101, 110, 110, 97], [98, 114, 105, 100, 103, 101], [98, 117, 99, 107], [98, 117, 115], [99, 104, 97, 114, 103, 101, 114], [99, 114, 121, 115, 116, 97, 108], [100, 105, 111, 100, 101], [100, 105, 118, 105, 100, 101, 114], [102, 105, 120, 101, 100, 45, 99, 108, 111, 99, 107], [102, 105, 120, 101, 100, 45, 114, 97, 105, 108], [102, 117, 101, 108, 45, 103, 97, 117, 103, 101], [104, 117, 98], [105, 50, 99], [108, 100, 111], [108, 111, 97, 100, 45, 115, 119, 105, 116, 99, 104], [108, 111, 114, 97], [109, 111, 100, 101, 109], [112, 108, 108], [114, 97, 100, 105, 111], [115, 101, 110, 115, 111, 114], [115, 105, 109, 112, 108, 101, 45, 98, 117, 115], [115, 112, 105], [115, 117, 112, 112, 108, 121], [116, 104, 101, 114, 109, 105, 115, 116, 111, 114], [119, 97, 116, 99, 104, 45, 99, 108, 111, 99, 107], [119, 105, 102, 105]]
end rollAsksRun
end Go.Proofs.YtlgbmjdlgjdolaaDoor

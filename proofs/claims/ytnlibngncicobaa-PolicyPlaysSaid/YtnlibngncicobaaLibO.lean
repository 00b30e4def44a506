/- Plain laws that more than one seat needs: strings of bytes, rows of numbers that fit a flat type. -/
import Derived.Test.YtnlibngncicobaaLibZ
import Derived.Lib.Bytes
namespace Go.Proofs.Ytnlibngncicobaa
open Go Go.RowKit
end Go.Proofs.Ytnlibngncicobaa

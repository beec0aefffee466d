/- Bytes as bits, for a seat that has no sums. -/
import Derived.Test.YtmekdhlcflielaaSeal
import Derived.Test.YtmekdhlcflielaaClone
import Derived.Test.YtmekdhlcflielaaBits
namespace Go.Proofs.Ytmekdhlcflielaa.crcW
def bv (l : List UInt8) : List (BitVec 8) := l.map UInt8.toBitVec
end Go.Proofs.Ytmekdhlcflielaa.crcW
namespace Go.Proofs.Ytmekdhlcflielaa.slW
open Go.Proofs.Ytmekdhlcflielaa.crcW
theorem bv_inj {a b : List UInt8} (h : bv a = bv b) : a = b := by
  have := congrArg (List.map UInt8.ofBitVec) h
  simpa [bv, List.map_map, Function.comp_def] using this
end Go.Proofs.Ytmekdhlcflielaa.slW

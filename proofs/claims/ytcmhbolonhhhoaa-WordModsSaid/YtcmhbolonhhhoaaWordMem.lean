/- What words and numbers are in memory. -/
import Derived.Test.YtcmhbolonhhhoaaWordProd
import Derived.Test.YtcmhbolonhhhoaaWordNum
namespace Go.Mun
open Go Go.RowKit Go.Proofs

end Go.Mun

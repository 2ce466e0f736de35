/-
  The walk of EveryNth by the reference.
  Conditions: those written at each theorem.
-/
import Derived.Test.YtfkpjfohkkilmaaP12c
namespace Go.Proofs.Ytfkpjfohkkilmaa
open Go.RowKit Go.BigFrame
set_option maxRecDepth 100000


end Go.Proofs.Ytfkpjfohkkilmaa

/-
  The law on IsPopulation.
  Conditions: those written at each theorem.
-/
import Derived.Test.YtfkpjfohkkilmaaP12a
namespace Go.Proofs.Ytfkpjfohkkilmaa
open Go.RowKit Go.BigFrame


end Go.Proofs.Ytfkpjfohkkilmaa

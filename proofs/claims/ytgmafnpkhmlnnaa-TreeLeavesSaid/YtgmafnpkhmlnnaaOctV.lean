/- The document's reader (pantlerref01.Reader), SameTexts, Few. -/
import Derived.Test.YtgmafnpkhmlnnaaOctU
namespace Go.Proofs.Ytgmafnpkhmlnnaa
open Go.RowKit Go.Mem Go.Num
set_option linter.unusedVariables false

end Go.Proofs.Ytgmafnpkhmlnnaa

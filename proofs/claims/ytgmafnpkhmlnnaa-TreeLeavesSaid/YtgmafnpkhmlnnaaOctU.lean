/- octet.Reader.Texts; a reader that nobody made; the document's reader. -/
import Derived.Test.YtgmafnpkhmlnnaaOctT
namespace Go.Proofs.Ytgmafnpkhmlnnaa
open Go.RowKit Go.Mem Go.Num
set_option linter.unusedVariables false

end Go.Proofs.Ytgmafnpkhmlnnaa

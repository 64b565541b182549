/- The plain law of FnExactConstants: for every argument the printed law function answers true. No condition beyond the statement's own. -/
import Derived.Test.YtphkmfmjmelfjaaPFnExactConstantsx1
set_option linter.unusedVariables false
set_option linter.unusedSimpArgs false
namespace Go.Proofs.Ytphkmfmjmelfjaa.Pure
open Go.RowKit Go.Proofs.Ytphkmfmjmelfjaa.PFnExactConstants Go.Proofs.YtphkmfmjmelfjaaW.PrintWords Go.Proofs.YtphkmfmjmelfjaaW.PrintLast Go.Proofs.YtphkmfmjmelfjaaW.PrintMore
namespace FnExactConstantsL

end FnExactConstantsL
open FnExactConstantsL

theorem FnExactConstants : laws_FnExactConstants.Pure := rfl

end Go.Proofs.Ytphkmfmjmelfjaa.Pure

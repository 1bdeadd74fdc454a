import Derived.Test.YtnbkmenlaogblaaPure4
set_option linter.unusedVariables false
namespace Go.V


end Go.V

import Derived.Test.YtkpfabigipedcaaNoVWords
import Derived.Laws.StructEq
set_option linter.unusedVariables false
set_option linter.unusedSimpArgs false

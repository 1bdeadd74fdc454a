import Derived.Test.YtkpfabigipedcaaGreatBaVWords
import Derived.Laws.StructEq
set_option linter.unusedVariables false
set_option linter.unusedSimpArgs false

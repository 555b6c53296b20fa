/- What was read fits its fields. -/
import Derived.Test.YthfdhggcnkgjfaaGreatDoorUD
import Derived.Test.YthfdhggcnkgjfaaGreatDoorPlainU
import Derived.Test.YthfdhggcnkgjfaaGreatDoorWB
namespace Go.Proofs.YthfdhggcnkgjfaaGreatDoor
set_option linter.unusedVariables false
end Go.Proofs.YthfdhggcnkgjfaaGreatDoor

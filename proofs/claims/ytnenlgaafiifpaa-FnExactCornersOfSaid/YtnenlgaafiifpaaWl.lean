/- Joins what the laws on corners use. No condition. -/
import Derived.Test.YtnenlgaafiifpaaLs
import Derived.Test.YtnenlgaafiifpaaWn

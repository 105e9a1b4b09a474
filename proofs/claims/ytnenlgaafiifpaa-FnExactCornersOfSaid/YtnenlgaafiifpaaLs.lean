/- Joins what the laws on spots use. No condition. -/
import Derived.Test.YtnenlgaafiifpaaLt
import Derived.Test.YtnenlgaafiifpaaIq

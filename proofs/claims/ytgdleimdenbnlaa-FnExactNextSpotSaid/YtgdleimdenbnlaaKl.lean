/- Joins what the laws on rooms use. No condition. -/
import Derived.Test.YtgdleimdenbnlaaKt
import Derived.Test.YtgdleimdenbnlaaKn

/- Joins what the law on NextSpot uses. No condition. -/
import Derived.Test.YtgdleimdenbnlaaKj
import Derived.Test.YtgdleimdenbnlaaKq

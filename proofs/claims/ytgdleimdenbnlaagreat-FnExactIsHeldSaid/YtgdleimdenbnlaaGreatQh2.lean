/- Joins what a law on kept regions uses. No condition. -/
import Derived.Test.YtgdleimdenbnlaaGreatKj
import Derived.Test.YtgdleimdenbnlaaGreatQh

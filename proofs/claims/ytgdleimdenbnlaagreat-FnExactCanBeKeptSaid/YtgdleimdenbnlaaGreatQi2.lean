/- Joins what a law on kept regions uses. No condition. -/
import Derived.Test.YtgdleimdenbnlaaGreatKl
import Derived.Test.YtgdleimdenbnlaaGreatLk
import Derived.Test.YtgdleimdenbnlaaGreatQi

/- Joins what the laws on rooms use. No condition. -/
import Derived.Test.YtgdleimdenbnlaaGreatLk
import Derived.Test.YtgdleimdenbnlaaGreatKn

/- Joins what the laws on the robust part, the region before and the kept region use. No condition. -/
import Derived.Test.YtgdleimdenbnlaaGreatKl
import Derived.Test.YtgdleimdenbnlaaGreatLk
import Derived.Test.YtgdleimdenbnlaaGreatQb
import Derived.Test.YtgdleimdenbnlaaGreatQc

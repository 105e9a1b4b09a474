/- Joins what the law on LossOf uses. No condition. -/
import Derived.Test.YtgdleimdenbnlaaGreatKj
import Derived.Test.YtgdleimdenbnlaaGreatLk
import Derived.Test.YtgdleimdenbnlaaGreatQr

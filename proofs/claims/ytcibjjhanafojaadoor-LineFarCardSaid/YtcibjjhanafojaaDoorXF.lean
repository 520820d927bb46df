/- All rules of the tool together: copies, arrays, numbers in text. -/
import Derived.Test.YtcibjjhanafojaaDoorXE
import Derived.Test.YtcibjjhanafojaaDoorXB

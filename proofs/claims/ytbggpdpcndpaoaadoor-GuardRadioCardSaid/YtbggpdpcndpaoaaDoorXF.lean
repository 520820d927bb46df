/- All rules of the tool together: copies, arrays, numbers in text. -/
import Derived.Test.YtbggpdpcndpaoaaDoorXE
import Derived.Test.YtbggpdpcndpaoaaDoorXB

/- All rules of the tool together: copies, arrays, numbers in text. -/
import Derived.Test.YtaagdbecijhkmaaDoorXE
import Derived.Test.YtaagdbecijhkmaaDoorXB

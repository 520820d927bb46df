/- All rules of the tool together: copies, arrays, numbers in text. -/
import Derived.Test.YtbhomnclohcecaaXE
import Derived.Test.YtbhomnclohcecaaXB

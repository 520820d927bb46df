/- All rules of the tool together: copies, arrays, numbers in text. -/
import Derived.Test.YtnmhabgnfifkdaaXE
import Derived.Test.YtnmhabgnfifkdaaXB

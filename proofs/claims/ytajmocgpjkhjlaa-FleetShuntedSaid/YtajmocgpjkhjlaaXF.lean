/- All rules of the tool together: copies, arrays, numbers in text. -/
import Derived.Test.YtajmocgpjkhjlaaXE
import Derived.Test.YtajmocgpjkhjlaaXB

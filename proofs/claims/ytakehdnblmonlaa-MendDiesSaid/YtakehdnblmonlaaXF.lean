/- All rules of the tool together: copies, arrays, numbers in text. -/
import Derived.Test.YtakehdnblmonlaaXE
import Derived.Test.YtakehdnblmonlaaXB

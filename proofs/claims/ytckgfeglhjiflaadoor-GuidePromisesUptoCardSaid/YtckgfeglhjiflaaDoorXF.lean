/- All rules of the tool together: copies, arrays, numbers in text. -/
import Derived.Test.YtckgfeglhjiflaaDoorXE
import Derived.Test.YtckgfeglhjiflaaDoorXB

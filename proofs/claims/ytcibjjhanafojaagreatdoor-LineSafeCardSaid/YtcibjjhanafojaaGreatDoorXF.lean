/- All rules of the tool together: copies, arrays, numbers in text. -/
import Derived.Test.YtcibjjhanafojaaGreatDoorXE
import Derived.Test.YtcibjjhanafojaaGreatDoorXB

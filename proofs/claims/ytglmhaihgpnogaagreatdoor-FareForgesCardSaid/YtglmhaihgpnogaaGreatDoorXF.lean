/- All rules of the tool together: copies, arrays, numbers in text. -/
import Derived.Test.YtglmhaihgpnogaaGreatDoorXE
import Derived.Test.YtglmhaihgpnogaaGreatDoorXB

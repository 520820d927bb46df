/- All rules of the tool together: copies, arrays, numbers in text. -/
import Derived.Test.YtnlnohallnfbmaaGreatDoorXE
import Derived.Test.YtnlnohallnfbmaaGreatDoorXB

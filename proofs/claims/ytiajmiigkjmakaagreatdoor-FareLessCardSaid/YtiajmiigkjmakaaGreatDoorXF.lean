/- All rules of the tool together: copies, arrays, numbers in text. -/
import Derived.Test.YtiajmiigkjmakaaGreatDoorXE
import Derived.Test.YtiajmiigkjmakaaGreatDoorXB

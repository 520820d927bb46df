/- All rules of the tool together: copies, arrays, numbers in text. -/
import Derived.Test.YthcgoaejnpelbaaGreatDoorXE
import Derived.Test.YthcgoaejnpelbaaGreatDoorXB

/- Contract of ormap.one: entR. -/
import Derived.Test.YtpdedfpacklnoaaGreatDoorTzTkD
import Derived.Laws.Bits64b
import Derived.StillTailTactics
set_option maxRecDepth 100000

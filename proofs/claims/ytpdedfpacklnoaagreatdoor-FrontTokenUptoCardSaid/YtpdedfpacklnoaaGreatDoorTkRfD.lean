/- Contract of the document's Covers. -/
import Derived.Test.YtpdedfpacklnoaaGreatDoorTkRfA
set_option maxRecDepth 100000

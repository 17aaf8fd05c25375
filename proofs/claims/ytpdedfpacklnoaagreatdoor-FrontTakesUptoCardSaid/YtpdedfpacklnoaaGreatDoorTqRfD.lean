/- Contract of the document's Covers. -/
import Derived.Test.YtpdedfpacklnoaaGreatDoorTqRfA
set_option maxRecDepth 100000

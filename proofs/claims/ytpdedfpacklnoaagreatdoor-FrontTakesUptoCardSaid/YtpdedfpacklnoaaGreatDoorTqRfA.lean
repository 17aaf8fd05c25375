/- Contract of the document's IsName: isName. Contracts of the document's small questions: pieces, price, rank, a dot, a mark, below, a name. Contracts of the document's mark: markOf; of above: aboveE. -/
import Derived.Test.YtpdedfpacklnoaaGreatDoorTqFbP
set_option maxRecDepth 100000
set_option maxRecDepth 100000
set_option maxRecDepth 100000

/- The first contracts of this seat's own, together. -/
import Derived.Test.YtbdafijdfpmdiaaDoorExtA
import Derived.Test.YtbdafijdfpmdiaaDoorExtB
import Derived.Test.YtbdafijdfpmdiaaDoorExtE
import Derived.Test.YtbdafijdfpmdiaaDoorExtF

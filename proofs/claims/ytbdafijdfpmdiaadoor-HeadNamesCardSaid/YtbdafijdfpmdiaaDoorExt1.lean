/- The contracts of head.Check, Get, Drop, Strip and of the reference's Bytes, together. -/
import Derived.Test.YtbdafijdfpmdiaaDoorExtG
import Derived.Test.YtbdafijdfpmdiaaDoorExtH
import Derived.Test.YtbdafijdfpmdiaaDoorExtL
import Derived.Test.YtbdafijdfpmdiaaDoorExtM

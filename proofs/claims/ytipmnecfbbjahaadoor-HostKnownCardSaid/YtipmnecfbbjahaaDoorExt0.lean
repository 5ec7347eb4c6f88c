/- The contracts of strings.Cut, strings.TrimPrefix, strconv.Itoa, host.Plain and host.Norm, together. -/
import Derived.Test.YtipmnecfbbjahaaDoorExtA
import Derived.Test.YtipmnecfbbjahaaDoorExtC
import Derived.Test.YtipmnecfbbjahaaDoorExtF

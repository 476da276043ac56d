/- The printed texts that the plain laws read. -/
import Derived.Test.YtmfhhhokacjgeaaDoorP0
import Derived.Test.YtmfhhhokacjgeaaDoorP1
import Derived.Test.YtmfhhhokacjgeaaDoorP2
import Derived.Test.YtmfhhhokacjgeaaDoorP3
import Derived.Test.YtmfhhhokacjgeaaDoorP4

import Derived.Test.YtomlhaekhammkaaIxZp
import Derived.Test.YtomlhaekhammkaaIxJ



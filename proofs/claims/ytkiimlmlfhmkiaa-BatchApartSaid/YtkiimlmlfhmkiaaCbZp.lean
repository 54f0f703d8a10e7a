import Derived.Test.YtkiimlmlfhmkiaaCbQ
import Derived.Test.YtkiimlmlfhmkiaaCbS
import Derived.Test.YtkiimlmlfhmkiaaCbU



/- All typed forms of this seat. -/
import Derived.Test.YtkojpppnjloikaaDoorSh0
import Derived.Test.YtkojpppnjloikaaDoorSh1
import Derived.Test.YtkojpppnjloikaaDoorSh2
import Derived.Test.YtkojpppnjloikaaDoorSh3
import Derived.Test.YtkojpppnjloikaaDoorSh4
import Derived.Test.YtkojpppnjloikaaDoorSh5
import Derived.Test.YtkojpppnjloikaaDoorSh6
import Derived.Test.YtkojpppnjloikaaDoorSh7
import Derived.Test.YtkojpppnjloikaaDoorSh8
import Derived.Test.YtkojpppnjloikaaDoorSh9
import Derived.Test.YtkojpppnjloikaaDoorSh10
import Derived.Test.YtkojpppnjloikaaDoorSh11

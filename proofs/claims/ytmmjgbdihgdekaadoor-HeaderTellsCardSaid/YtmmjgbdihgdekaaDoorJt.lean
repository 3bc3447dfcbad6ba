/- All that the headers' texts import. -/
import Derived.Test.YtmmjgbdihgdekaaDoorC9
import Derived.Test.YtmmjgbdihgdekaaDoorF3
import Derived.Test.YtmmjgbdihgdekaaDoorVk

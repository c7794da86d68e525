import Derived.Test.YtallakebnoighaaSSEWN


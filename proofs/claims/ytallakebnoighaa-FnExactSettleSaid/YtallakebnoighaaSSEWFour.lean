import Derived.Test.YtallakebnoighaaSSEWTab


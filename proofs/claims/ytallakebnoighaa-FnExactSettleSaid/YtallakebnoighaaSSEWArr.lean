import Derived.Test.YtallakebnoighaaSSEWWords


import Derived.Test.YtallakebnoighaaSSEWFootNe


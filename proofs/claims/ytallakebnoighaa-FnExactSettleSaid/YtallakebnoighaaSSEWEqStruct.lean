import Derived.Test.YtallakebnoighaaSSEWWords
import Derived.Laws.StructEq


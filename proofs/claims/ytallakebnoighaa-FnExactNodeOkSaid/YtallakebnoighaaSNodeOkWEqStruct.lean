import Derived.Test.YtallakebnoighaaSNodeOkWWords
import Derived.Laws.StructEq


import Derived.Test.YtallakebnoighaaSNodeOkWN


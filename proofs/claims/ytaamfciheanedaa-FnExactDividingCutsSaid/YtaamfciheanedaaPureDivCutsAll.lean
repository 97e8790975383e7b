/- DividingCuts: all parts. -/
import Derived.Test.YtaamfciheanedaaPureDivCutsA
import Derived.Test.YtaamfciheanedaaPureDivCutsB
import Derived.Test.YtaamfciheanedaaPureDivCutsC
import Derived.Test.YtaamfciheanedaaPureDivCutsD
import Derived.Test.YtaamfciheanedaaPureDivCutsE
import Derived.Test.YtaamfciheanedaaPureDivCutsF
import Derived.Test.YtaamfciheanedaaPureDivCutsG

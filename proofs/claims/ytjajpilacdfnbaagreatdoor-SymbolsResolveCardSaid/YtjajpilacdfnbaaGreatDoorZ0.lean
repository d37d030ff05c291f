/- What the law SymbolsResolve alone needs: CodeA. -/
import Derived.Test.YtjajpilacdfnbaaGreatDoorProg
import Derived.Test.YtjajpilacdfnbaaGreatDoorX0
import Derived.Test.YtjajpilacdfnbaaGreatDoorX1
import Derived.Test.YtjajpilacdfnbaaGreatDoorX2
import Derived.Test.YtjajpilacdfnbaaGreatDoorX3
import Derived.Test.YtjajpilacdfnbaaGreatDoorX4
import Derived.Test.YtjajpilacdfnbaaGreatDoorX5
import Derived.Test.YtjajpilacdfnbaaGreatDoorX6
import Derived.Test.YtjajpilacdfnbaaGreatDoorX7
import Derived.Test.YtjajpilacdfnbaaGreatDoorX8
import Derived.Test.YtjajpilacdfnbaaGreatDoorX9
import Derived.Test.YtjajpilacdfnbaaGreatDoorX10
import Derived.Test.YtjajpilacdfnbaaGreatDoorX11
import Derived.Test.YtjajpilacdfnbaaGreatDoorX12
import Derived.Test.YtjajpilacdfnbaaGreatDoorX13
import Derived.Test.YtjajpilacdfnbaaGreatDoorX14
import Derived.Test.YtjajpilacdfnbaaGreatDoorX15
import Derived.Test.YtjajpilacdfnbaaGreatDoorX16
import Derived.Test.YtjajpilacdfnbaaGreatDoorX17
import Derived.Test.YtjajpilacdfnbaaGreatDoorX18
import Derived.Test.YtjajpilacdfnbaaGreatDoorX19
import Derived.Test.YtjajpilacdfnbaaGreatDoorX20
import Derived.Test.YtjajpilacdfnbaaGreatDoorX21
import Derived.Test.YtjajpilacdfnbaaGreatDoorX22
import Derived.Test.YtjajpilacdfnbaaGreatDoorX23
import Derived.Test.YtjajpilacdfnbaaGreatDoorX24
import Derived.Test.YtjajpilacdfnbaaGreatDoorX25
import Derived.Test.YtjajpilacdfnbaaGreatDoorX26
import Derived.Test.YtjajpilacdfnbaaGreatDoorX27
import Derived.Test.YtjajpilacdfnbaaGreatDoorX28
import Derived.Test.YtjajpilacdfnbaaGreatDoorX29
import Derived.Test.YtjajpilacdfnbaaGreatDoorX30
import Derived.Test.YtjajpilacdfnbaaGreatDoorX31
import Derived.Test.YtjajpilacdfnbaaGreatDoorX32
import Derived.Test.YtjajpilacdfnbaaGreatDoorX33
namespace Go.Proofs.YtjajpilacdfnbaaGreatDoor
open Am Go.Proofs
set_option maxRecDepth 100000
namespace C
def y4o : FuncId := 90
def y5r : FuncId := 91
def y61 : FuncId := 47
def y5s : FuncId := 150
def y60 : FuncId := 127
def y7s : FuncId := 126
def y5q : FuncId := 165
def y7t : FuncId := 151
def y6l : FuncId := 166
def y4f : FuncId := 152
def y88 : FuncId := 128
def y4q : FuncId := 96
def y5p : FuncId := 121
def y7d : FuncId := 92
def y6s : FuncId := 93
def y5f : FuncId := 51
def y7q : FuncId := 122
def y8p : FuncId := 149
def y87 : FuncId := 123
def y8q : FuncId := 94
def y5z : FuncId := 124
def y4w : FuncId := 125
def y77 : FuncId := 95
def y7r : FuncId := 48
def y6k : FuncId := 49
def y7o : FuncId := 50
def y7p : FuncId := 18
def y5g : FuncId := 52
def y8o : FuncId := 20
def y98 : FuncId := 53
def y76 : FuncId := 54
def y8n : FuncId := 21
def y75 : FuncId := 7
def y5a : FuncId := 3
end C
end Go.Proofs.YtjajpilacdfnbaaGreatDoor

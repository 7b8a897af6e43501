/- Printed by a program of this session (wip/pr/drive.py) over the kit's print: L. -/
import Derived.Test.YtmgfdcfbjgokgaaDoorPLx0
import Derived.Test.YtmgfdcfbjgokgaaDoorPLx1
import Derived.Test.YtmgfdcfbjgokgaaDoorPLx2
import Derived.Test.YtmgfdcfbjgokgaaDoorPLx3
import Derived.Test.YtmgfdcfbjgokgaaDoorPLx4
import Derived.Test.YtmgfdcfbjgokgaaDoorPLx5
import Derived.Test.YtmgfdcfbjgokgaaDoorPLx6
import Derived.Test.YtmgfdcfbjgokgaaDoorPLx7
import Derived.Test.YtmgfdcfbjgokgaaDoorPLx8
import Derived.Test.YtmgfdcfbjgokgaaDoorPLx9
import Derived.Test.YtmgfdcfbjgokgaaDoorPLx10
import Derived.Test.YtmgfdcfbjgokgaaDoorPLx11
import Derived.Test.YtmgfdcfbjgokgaaDoorPLx12
import Derived.Test.YtmgfdcfbjgokgaaDoorPLx13
namespace Go.Proofs.YtmgfdcfbjgokgaaDoor.PL
open Go.RowKit Go.Proofs.YtmgfdcfbjgokgaaDoorW.PrintWords Go.Proofs.YtmgfdcfbjgokgaaDoorW.PrintLast Go.Proofs.YtmgfdcfbjgokgaaDoorW.PrintMore
attribute [local go_sem] max2_int min2_int max_two min_two max_three min_three max_four min_four   -- for this text's walks alone
set_option linter.unusedVariables false
set_option linter.unusedSimpArgs false

end Go.Proofs.YtmgfdcfbjgokgaaDoor.PL

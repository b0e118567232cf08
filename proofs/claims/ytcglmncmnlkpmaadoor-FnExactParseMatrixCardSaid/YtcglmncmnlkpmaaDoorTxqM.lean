/- The plain functions that mirror the code of this unit: none where the code would panic or overflow. Written by program (wip/gen). -/
import Derived.Test.YtcglmncmnlkpmaaDoorTx2
import Derived.Test.YtcglmncmnlkpmaaDoorNumM
namespace Go.Proofs.YtcglmncmnlkpmaaDoor
set_option linter.unusedVariables false

def impl_parts_m (p0 : List UInt8) : Option ((List (List UInt8)) × Bool) :=
  (strings_Split_m p0 ([59] : List UInt8)).bind fun y1 => (ck ((y1.length : Int) - 1)).bind fun n5 => (idx y1 n5).bind fun x7 => (cutO y1 n5).bind fun l10 => some (l10, x7 == ([] : List UInt8))

def impl_parseNumber_m (p0 : List UInt8) : Option (Int × Bool) :=
  cond (p0 == ([105, 110, 102] : List UInt8))
        (some (1000000000, true))
        ((strconv_Atoi_m p0).bind fun y1 => ((cond y1.2 (some true) ((impl_isFinite_m y1.1).bind fun y8 => some (!y8)) : Option Bool)).bind fun b5 => ((cond b5 (some true) ((strconv_Itoa_m y1.1).bind fun y13 => some (y13 != p0)) : Option Bool)).bind fun b10 => cond b10
        (some (0, false))
        (some (y1.1, true)))

end Go.Proofs.YtcglmncmnlkpmaaDoor

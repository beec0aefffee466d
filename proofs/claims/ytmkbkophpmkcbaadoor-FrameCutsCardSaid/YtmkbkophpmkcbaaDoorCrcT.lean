/- The table of the sum, as a row lists it. -/
import Derived.Test.YtmkbkophpmkcbaaDoorCrcW
import Derived.Lib.LaidTab
namespace Go.Proofs.YtmkbkophpmkcbaaDoor.crcW
open Go Go.RowKit Go.Par Go.Kit
theorem gFour : Tryd.prog.globalNamed "bruit/crc.four" = some 0 := by kernel_rfl
theorem tab_of {W : World} (h : Lib.TabIs Tryd.prog W "bruit/crc.four" .u32 [0, 79764919, 159529838, 222504665, 319059676, 398814059, 445009330, 507990021, 638119352, 583659535, 797628118, 726387553, 890018660, 835552979, 1015980042, 944750013]) : Tab W := by
  intro k hk
  have hc := fun j hj => h.cell gFour j hj
  match k, hk with
  | 0, _ => exact hc 0 (by decide)
  | 1, _ => exact hc 1 (by decide)
  | 2, _ => exact hc 2 (by decide)
  | 3, _ => exact hc 3 (by decide)
  | 4, _ => exact hc 4 (by decide)
  | 5, _ => exact hc 5 (by decide)
  | 6, _ => exact hc 6 (by decide)
  | 7, _ => exact hc 7 (by decide)
  | 8, _ => exact hc 8 (by decide)
  | 9, _ => exact hc 9 (by decide)
  | 10, _ => exact hc 10 (by decide)
  | 11, _ => exact hc 11 (by decide)
  | 12, _ => exact hc 12 (by decide)
  | 13, _ => exact hc 13 (by decide)
  | 14, _ => exact hc 14 (by decide)
  | 15, _ => exact hc 15 (by decide)
  | n + 16, h => omega
end Go.Proofs.YtmkbkophpmkcbaaDoor.crcW

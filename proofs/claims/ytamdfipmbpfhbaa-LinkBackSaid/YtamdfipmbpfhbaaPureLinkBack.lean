/- What Hide hid, Show shows: in plain numbers. -/
import Derived.Test.YtamdfipmbpfhbaaPl4
import Derived.Test.YtamdfipmbpfhbaaG4
namespace Go.Proofs.Ytamdfipmbpfhbaa.Pure
theorem LinkBack : G.wainscotlaw16_LinkBack.Pure := by
  intro n key a _ hk _
  have b := Go.bounds_u64 hk
  exact Pl.back rfl n key a (by omega) (by omega)
end Go.Proofs.Ytamdfipmbpfhbaa.Pure

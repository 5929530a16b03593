/- The list of fresh links has all objects, rising: in plain numbers. -/
import Derived.Test.YtamdfipmbpfhbaaPl4
import Derived.Test.YtamdfipmbpfhbaaG4
namespace Go.Proofs.Ytamdfipmbpfhbaa.Pure
theorem LinkAll : G.wainscotlaw16_LinkAll.Pure := by
  intro n key _ hk
  have b := Go.bounds_u64 hk
  exact ⟨200, Pl.all rfl n key (by omega) (by omega) 200 (by omega)⟩
end Go.Proofs.Ytamdfipmbpfhbaa.Pure

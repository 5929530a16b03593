/- Fresh of the program and of the document agree at all numbers and keys: in plain numbers. -/
import Derived.Test.YtamdfipmbpfhbaaPl4
import Derived.Test.YtamdfipmbpfhbaaG4
namespace Go.Proofs.Ytamdfipmbpfhbaa.Pure
theorem LinkFresh : G.wainscotlaw16_LinkFresh.Pure := by
  intro n key _ hk
  have b := Go.bounds_u64 hk
  exact ⟨200, Pl.fresh rfl n key (by omega) (by omega) 200 (by omega)⟩
end Go.Proofs.Ytamdfipmbpfhbaa.Pure

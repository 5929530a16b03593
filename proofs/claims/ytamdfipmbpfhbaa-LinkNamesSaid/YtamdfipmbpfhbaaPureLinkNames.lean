/- Both ends and what is refused: in plain numbers. -/
import Derived.Test.YtamdfipmbpfhbaaPl5
namespace Go.Proofs.Ytamdfipmbpfhbaa.Pure
theorem LinkNames : G.wainscotlaw16_LinkNames.Pure := ⟨800, Pl.names rfl⟩
end Go.Proofs.Ytamdfipmbpfhbaa.Pure

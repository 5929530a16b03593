/- Hide and Show of the program and of the document agree at all numbers, keys and words: in plain numbers. -/
import Derived.Test.YtamdfipmbpfhbaaPl4
import Derived.Test.YtamdfipmbpfhbaaG2
namespace Go.Proofs.Ytamdfipmbpfhbaa.Pure
theorem LinkHides : G.wainscotlaw16_LinkHides.Pure := by
  intro n key a hn hk _
  have b := Go.bounds_u64 hk
  have c := Go.bounds_i64 hn
  exact ⟨200, Pl.hides rfl n key a (by omega) (by omega) (by omega) 200 (by omega)⟩
end Go.Proofs.Ytamdfipmbpfhbaa.Pure

/- List of the program and of the document agree at all links, keys and numbers: in plain numbers. -/
import Derived.Test.YtamdfipmbpfhbaaPl4
import Derived.Test.YtamdfipmbpfhbaaG3
namespace Go.Proofs.Ytamdfipmbpfhbaa.Pure
theorem LinkLists : G.wainscotlaw16_LinkLists.Pure := by
  intro l key first _ hm hl hk _
  have b := Go.bounds_u64 hk
  refine ⟨l.length + 600, Pl.lists rfl l key first ?_ ?_ (by omega) (by omega) _ (Nat.le_refl _)⟩
  · omega
  · intro x hx
    have := Go.bounds_u64 (hl x hx)
    omega
end Go.Proofs.Ytamdfipmbpfhbaa.Pure

/- A goal at which the walk stands still. -/
import Derived.Test.YtkofaoaglnjkgaaSk
namespace Go.Proofs.Ytkofaoaglnjkgaa
open Go.RowKit Go.Deep
def Hold (p : Prop) : Prop := p
theorem Hold.out {p : Prop} (h : Hold p) : p := h
end Go.Proofs.Ytkofaoaglnjkgaa

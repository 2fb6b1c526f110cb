/- (*catchmentref22.State).Do, whatever the event. -/
import Derived.Test.YtlclhinianamhaaEvRefDP
import Derived.Test.YtlclhinianamhaaEvRefDD
import Derived.Test.YtlclhinianamhaaEvRefDW
namespace Go.Proofs.Ytlclhinianamhaa
open Go.RowKit Go.Deep
set_option linter.unusedVariables false
set_option linter.unusedSimpArgs false

theorem refdo_calls (S : Nat → Prop) (p : Nat) (x : StD) (ecs : List Value) (e : EventD) (w : World) (hst : RefSt S w p x) (he : EventR w ecs e) (hrl : e.row.length ≤ 100000) (hl : x.l.length ≤ 1000) (hne : ∀ r ∈ x.l, 1 ≤ r.length ∧ r.length ≤ 1000) :
    Calls Try.prog 29 #[.pointer (some ⟨p, 0, none⟩), .agg ecs.toArray] w (DoPost S p x e w) := by
  by_cases hd : doE x e = 0
  · obtain ⟨_, _, hc⟩ := doE_ok hd
    obtain ⟨_, h1, h3, _⟩ := checkE_op hc
    rcases (by omega : e.op = 1 ∨ e.op = 2 ∨ e.op = 3) with h | h | h
    · exact refdo_put S p x ecs e w hst he hrl hl (fun r hr => (hne r hr).1) hd h
    · exact refdo_del S p x ecs e w hst he hrl hl (fun r hr => (hne r hr).1) hd h
    · exact refdo_wide S p x ecs e w hst he hrl hl (fun r hr => (hne r hr).1) hd h (fun r hr => (hne r hr).2)
  · exact refdo_refused S p x ecs e w hst he hrl hl (fun r hr => (hne r hr).1) hd
end Go.Proofs.Ytlclhinianamhaa

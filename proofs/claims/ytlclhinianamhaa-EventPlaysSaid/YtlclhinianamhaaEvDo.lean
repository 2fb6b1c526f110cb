/- (*event.State).Do, whatever the event. -/
import Derived.Test.YtlclhinianamhaaEvDP
import Derived.Test.YtlclhinianamhaaEvDD
import Derived.Test.YtlclhinianamhaaEvDW
namespace Go.Proofs.Ytlclhinianamhaa
open Go.RowKit Go.Deep
set_option linter.unusedVariables false
set_option linter.unusedSimpArgs false

theorem ido_calls (S : Nat → Prop) (p bm : Nat) (x : StD) (ecs : List Value) (e : EventD) (w : World) (hst : ImpSt S w p bm x) (he : EventR w ecs e) (hrl : e.row.length ≤ 1000) (hl : x.l.length ≤ 1000) (hne : ∀ r ∈ x.l, 1 ≤ r.length ∧ r.length ≤ 1000) :
    Calls Try.prog 17 #[.pointer (some ⟨p, 0, none⟩), .agg ecs.toArray] w (IDoPost S p bm x e w) := by
  by_cases hd : doE x e = 0
  · obtain ⟨_, _, hc⟩ := doE_ok hd
    obtain ⟨_, h1, h3, _⟩ := checkE_op hc
    rcases (by omega : e.op = 1 ∨ e.op = 2 ∨ e.op = 3) with h | h | h
    · exact ido_put S p bm x ecs e w hst he hrl hl hd h
    · exact ido_del S p bm x ecs e w hst he hrl hl hd h
    · exact ido_wide S p bm x ecs e w hst he hrl hl hd h hne
  · exact ido_refused S p bm x ecs e w hst he hrl hl hd
end Go.Proofs.Ytlclhinianamhaa

/- The reference: the best node; all tasks put by first fit, by best fit. -/
import Derived.Test.YtapkpphdkdbclaaS13
namespace Go.Proofs.Ytapkpphdkdbclaa
set_option maxRecDepth 100000
open Go.RowKit

theorem sTasksValid_ext (v u : Value) (room : List Int) (ts : List T) (w : World) (hr : Ints w v room) (h : Tasks w u ts) :
    Calls Try.prog 73 #[v, u] w fun e w' => e = .returned (.bool (tasksB room ts)) ∧ Ext w w' :=
  (sTasksValid_any v u room ts w hr h).mono fun _ _ ⟨e, n, hw⟩ => ⟨e, hw ▸ (Ext.refl _).drewN n⟩

theorem tells_sfirst {room : List Int} {ts : List T} (h : TasksOk room ts) : Tells 72 room ts (at11 room) := fun v u n bs x w hx hb _ hr hu hn =>
  l11At_any v u n room bs x w hr hu hn h.1.1.1 (fun b hb' t ht => h.good t (hb b hb' t ht)) (h.good x hx)
end Go.Proofs.Ytapkpphdkdbclaa

/- How great the results are. No condition. -/
import Derived.Test.YtcijbpjiioodlaaI15
import Derived.Test.YtcijbpjiioodlaaMark4
namespace Go.Proofs.Ytcijbpjiioodlaa
set_option maxRecDepth 100000

theorem allL_lim {room : List Int} {c : List (List T) → T → Option Nat} (hc : Chooses room c) {ts : List T} (h : TasksOk room ts) : (allL c ts).length + weigh (allL c ts) ≤ lim := by
  obtain ⟨h1, h2, h3⟩ := allL_perm hc ts
  have hl := h.2.1
  have := weigh_small (bs := allL c ts) (by rw [h1.length_eq]; omega) (fun t ht => (h.good t (h1.subset ht)).1)
  unfold lim; omega
theorem firstAllL_lim (room : List Int) (ts : List T) : (firstAllL room ts).length + weigh (firstAllL room ts) ≤ lim := by
  unfold firstAllL
  split
  · rename_i h; exact allL_lim (at11_chooses room) (tasksB_iff.1 h)
  · simp [weigh, lim]
theorem bestAllL_lim (room : List Int) (ts : List T) : (bestAllL room ts).length + weigh (bestAllL room ts) ≤ lim := by
  unfold bestAllL
  split
  · rename_i h; exact allL_lim (best12_chooses room) (tasksB_iff.1 h)
  · simp [weigh, lim]

end Go.Proofs.Ytcijbpjiioodlaa

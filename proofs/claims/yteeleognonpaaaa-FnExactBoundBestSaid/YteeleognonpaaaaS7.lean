/- The reference's best bound. -/
import Derived.Test.YteeleognonpaaaaS6
namespace Go.Proofs.Yteeleognonpaaaa
open Go.RowKit

set_option maxHeartbeats 600000 in
theorem sBoundBest_any (v u : Value) (room : List Int) (ts : List T) (w : World) (hr : Ints w v room) (h : Tasks w u ts) :
    Calls Try.prog 6 #[v, u] w fun e w' => e = .returned (.int .i64 (boundI room ts)) ∧ Ext w w' := by
  cases ht : tasksB room ts with
  | false =>
    have Hd : Hid (boundI room ts = -1) := by show boundI room ts = -1; simp [boundI, ht]
    go_enter Try.func6, Try.ntmps6
    go_wp2_with fail
    refine (sTasksValid_any _ _ _ _ _ hr h).mono ?_
    rintro e w2 ⟨rfl, n, rfl⟩
    go_wp2
    go_ret
    exact ⟨ret_int Hd.out.symm, (Ext.refl w).drewN n⟩
  | true =>
    have HT := Lib.hid (tasksB_iff.1 ht)
    have Hd : Hid (boundI room ts = max (sumI room ts) (apartI room ts)) := by show boundI room ts = _; simp [boundI, ht]
    go_enter Try.func6, Try.ntmps6
    go_wp2_with fail
    refine (sTasksValid_any _ _ _ _ _ hr h).mono ?_
    rintro e w2 ⟨rfl, n, rfl⟩
    go_wp2_with fail
    clear ht
    refine (l5Sum_any _ _ _ _ _ (hr.drewN n) (h.drewN n) HT.out).mono ?_
    rintro e w3 ⟨rfl, hE⟩
    have hE1 := ((Ext.refl w).drewN n).trans hE
    clear hE
    go_wp2_with fail
    refine (l5Apart_any _ _ _ _ _ (hr.ext hE1) (h.ext hE1) HT.out.1.1.1 HT.out.good).mono ?_
    rintro e w4 ⟨rfl, hE2⟩
    have hE3 := hE1.trans hE2
    clear hE1 hE2
    go_wp2_with fail
    all_goals (go_ret; exact ⟨ret_int (by rw [Hd.out]; omega), hE3⟩)

end Go.Proofs.Yteeleognonpaaaa

/- The program: the score of a task in a node. -/
import Derived.Test.YtipmoedflpjioaaI11
namespace Go.Proofs.Ytipmoedflpjioaa
set_option maxRecDepth 100000
open Go.RowKit

def bestScoreI (room : List Int) (b : List T) (x : T) : Int := if ok11 room [b] x = true then scoreI room b x else -1
theorem ok11_one {room : List Int} {b : List T} {x : T} (h : ok11 room [b] x = true) : BinsOk room [b] ∧ TasksOk room (b ++ [x]) := by
  unfold ok11 at h
  rw [Bool.and_eq_true] at h
  exact ⟨binsB_iff.1 h.1, by simpa using tasksB_iff.1 h.2⟩
theorem ok11_len {room : List Int} {b : List T} {x : T} (h : ok11 room [b] x = true) : b.length ≤ 50 := by
  have := (ok11_one h).2.2.1
  rw [List.length_append] at this
  omega
theorem ok11_good {room : List Int} {b : List T} {x : T} (h : ok11 room [b] x = true) : Good b ∧ Good1 x :=
  ⟨fun t ht => (ok11_one h).2.good t (by simp [ht]), (ok11_one h).2.good x (by simp)⟩

set_option maxHeartbeats 1000000 in
theorem BestScore_any (v u n : Value) (room : List Int) (b : List T) (x : T) (w : World) (hr : Ints w v room) (h : Tasks w u b) (hn : Ints w n x.need) (hf : b.length ≤ 2097152) :
    Calls Try.prog 45 #[v, u, .agg #[.int .i64 x.id, n]] w fun e w' => e = .returned (.int .i64 (bestScoreI room b x)) ∧ Ext w w' := by
  obtain ⟨an, cn, rfl, hn⟩ := hn.open
  obtain ⟨ab, cb, rfl, h⟩ := h.open
  have E0 := Lib.hid (((Ext.refl w).alloc (Obj.cells #[.int .i64 x.id, .slice an x.need.length cn] 38)).alloc (Obj.cells #[.slice ab b.length cb] 27))
  have C0 := Lib.hid (((Ext.refl (w.alloc (Obj.cells #[.int .i64 x.id, .slice an x.need.length cn] 38))).alloc (Obj.cells #[.slice ab b.length cb] 27)).cell (box_cell w #[.int .i64 x.id, .slice an x.need.length cn] 38 0))
  have C1 := Lib.hid (((Ext.refl (w.alloc (Obj.cells #[.int .i64 x.id, .slice an x.need.length cn] 38))).alloc (Obj.cells #[.slice ab b.length cb] 27)).cell (box_cell w #[.int .i64 x.id, .slice an x.need.length cn] 38 1))
  have B0 := Lib.hid (Bins.lit1 (h.ext ((Ext.refl w).alloc (Obj.cells #[.int .i64 x.id, .slice an x.need.length cn] 38))) 1)
  rw [World.size_alloc] at B0
  have Hf := Lib.hid (show [b].flatten.length ≤ 2097152 by simpa using hf)
  clear hf
  cases hb : ok11 room [b] x with
  | false =>
    have Hd : Hid (bestScoreI room b x = -1) := by show bestScoreI room b x = -1; simp [bestScoreI, hb]
    have HB := Lib.hid hb
    clear hb
    go_enter Try.func45, Try.ntmps45
    go_wp2_with fail
    have cc := canCome_any _ _ _ room [b] x _ (hr.ext E0.out) B0.out (hn.ext E0.out) Hf.out
    rw [HB.out] at cc
    refine cc.mono ?_
    clear cc
    rintro e w2 ⟨rfl, hE2⟩
    go_wp2
    go_ret
    exact ⟨ret_int Hd.out.symm, E0.out.trans hE2⟩
  | true =>
    have Hd : Hid (bestScoreI room b x = scoreI room b x) := by show bestScoreI room b x = _; simp [bestScoreI, hb]
    have H1 := Lib.hid (ok11_one hb)
    have H2 := Lib.hid (ok11_len hb)
    have H3 := Lib.hid (ok11_good hb)
    have HB := Lib.hid hb
    clear hb
    go_enter Try.func45, Try.ntmps45
    go_wp2_with fail
    have cc := canCome_any _ _ _ room [b] x _ (hr.ext E0.out) B0.out (hn.ext E0.out) Hf.out
    rw [HB.out] at cc
    refine cc.mono ?_
    clear cc
    rintro e w2 ⟨rfl, hE2⟩
    have E2 := Lib.hid (E0.out.trans hE2)
    have c0 : w2.cell? ⟨w.heap.size, 0, none⟩ = some (.int .i64 x.id) := hE2.cell C0.out
    have c1 : w2.cell? ⟨w.heap.size, 1, none⟩ = some (.slice an x.need.length cn) := hE2.cell C1.out
    clear hE2
    go_wp2_with fail
    refine (scoreOf_any _ _ _ room b x _ (hr.ext E2.out) (h.ext E2.out) (hn.ext E2.out) H1.out.2.1 H3.out.1 H2.out H3.out.2).mono ?_
    rintro e w3 ⟨rfl, hE3⟩
    have E3 := Lib.hid (E2.out.trans hE3)
    clear hE3
    go_wp2_with fail
    refine (scoreNumber_any room b x _).mono ?_
    rintro e w4 ⟨rfl, hE4⟩
    go_wp2
    go_ret
    exact ⟨ret_int Hd.out.symm, E3.out.trans hE4⟩

end Go.Proofs.Ytipmoedflpjioaa

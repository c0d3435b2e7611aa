/- The reference's drawing of a room and tasks; of a room, nodes and a task. No condition. -/
import Derived.Test.YtcijbpjiioodlaaDr8
namespace Go.Proofs.Ytcijbpjiioodlaa
set_option maxRecDepth 100000
open Go.RowKit

set_option maxHeartbeats 1000000 in
theorem l91Many_any (r : Value) (B P : Nat) (w : World) (h : Rdr w B r P) (hP : P ≤ 50000) :
    Calls Try.prog 152 #[r] w fun e w' => ∃ k : Nat, e = .returned (.int .i64 k) ∧ k ≤ 15 ∧ Dr B r (P + 2) w w' := by
  go_enter Try.func152, Try.ntmps152
  go_wp2_with fail
  refine (pick_any _ B _ 16 _ h (by omega) (by omega) (by omega)).mono ?_
  rintro e w1 ⟨k1, rfl, b1, d1⟩
  have D1 := Lib.hid d1
  clear d1 h
  by_cases h0 : k1 = 0
  · have hb : (((k1 : Nat) : Int) == 0) = true := by simp [h0]
    clear h0 b1
    go_wp2_with fail
    refine (pick_any _ B _ 2 _ D1.out.rd (by omega) (by omega) (by omega)).mono ?_
    rintro e w2 ⟨k2, rfl, b2, d2⟩
    have D2 := Lib.hid (D1.out.trans d2)
    clear d2 hb
    go_wp2
    go_ret
    exact ⟨14 + k2, by go_num, by omega, D2.out⟩
  · have hb : (((k1 : Nat) : Int) == 0) = false := by simp [h0]
    clear h0 b1
    go_wp2_with fail
    refine (pick_any _ B _ 11 _ D1.out.rd (by omega) (by omega) (by omega)).mono ?_
    rintro e w2 ⟨k2, rfl, b2, d2⟩
    have D2 := Lib.hid (D1.out.trans d2)
    clear d2 hb
    go_wp2
    go_ret
    exact ⟨k2, rfl, by omega, D2.out⟩

/-- A drawn room with tasks. -/
def DrawnTasks (w : World) (vr vb : Value) (room : List Int) (ts : List T) : Prop := Ints w vr room ∧ Tasks w vb ts ∧ DnT ts ∧ ts.length ≤ 20 ∧ ∃ a c, vb = .slice a ts.length c ∧ ts.length ≤ c
theorem OwnTasks.formc {w : World} {B : Nat} {v : Value} {ts : List T} (h : OwnTasks w B v ts) : ∃ a c, v = .slice a ts.length c ∧ ts.length ≤ c := by
  obtain ⟨xs, ⟨_, h1⟩, _⟩ := h
  rcases h1 with ⟨rfl, hn⟩ | ⟨g, cap, cur, rfl, _, _, r, _⟩
  · exact ⟨none, 0, by rw [hn], by omega⟩
  · exact ⟨_, _, rfl, r⟩
/-- The first tasks of a slice. -/
theorem Tasks.take {w : World} {a : Option Addr} {c : Nat} {ts : List T} (h : Tasks w (.slice a ts.length c) ts) {q : Nat} (hq : q ≤ ts.length) : Tasks w (.slice a q c) (ts.take q) := by
  obtain ⟨hl, a', c', xs, hv, hr, hx⟩ := h
  cases hv
  refine ⟨by simp; omega, _, _, xs.take (q * 2), by rw [List.length_take, Nat.min_eq_left hq], hr.prefix _, ?_⟩
  have := hx.sub (l := 0) (n := q) (by omega)
  simpa using this
/-- One task of a slice, as a slice. -/
theorem Tasks.one {w : World} {b off n c : Nat} {ts : List T} (h : Tasks w (.slice (some ⟨b, off, none⟩) n c) ts) {k : Nat} (hk : k < ts.length) (c' : Nat) : Tasks w (.slice (some ⟨b, off + k * 2, none⟩) 1 c') [ts[k]] := by
  obtain ⟨hl, a', c'', xs, hv, hr, hx⟩ := h
  cases hv
  have h3 := hx.1
  refine ⟨by simp [lim], _, _, ((xs.drop (k * 2)).take (1 * 2)), rfl, ?_, ?_⟩
  · have := hr.sub (l := k * 2) (n := 1 * 2) (by omega) (by omega)
    simpa [Addr.add_lit] using this
  · have := hx.sub (l := k) (n := 1) (by omega)
    have e : (ts.drop k).take 1 = [ts[k]] := by rw [List.drop_eq_getElem_cons hk]; rfl
    rw [e] at this
    exact this
theorem DrawnTasks.ext {w w' : World} {vr vb : Value} {room : List Int} {ts : List T} (h : DrawnTasks w vr vb room ts) (k : Ext w w') : DrawnTasks w' vr vb room ts := ⟨h.1.ext k, h.2.1.ext k, h.2.2⟩

set_option maxHeartbeats 1000000 in
theorem DrawTasksValid_any (v : Value) (n : Nat) (w : World) (h : ArgCode w v n) :
    Calls Try.prog 105 #[v] w fun e w' => ∃ vr vb room ts, e = .returned (.tuple #[vr, vb]) ∧ DrawnTasks w' vr vb room ts ∧ Ext w w' := by
  go_enter Try.func105, Try.ntmps105
  go_wp2_with fail
  refine (l6Open_any _ _ _ h).mono ?_
  rintro e w1 ⟨r, rfl, hE, hr⟩
  have E1 := Lib.hid hE
  have HR := Lib.hid hr
  clear hE hr
  go_wp2_with fail
  refine (l91Room_any _ _ _ _ HR.out (by omega)).mono ?_
  rintro e w2 ⟨vr, room, rfl, hi, hd, dr⟩
  have D2 := Lib.hid dr
  obtain ⟨ra, rc, rfl, -⟩ := hi.open
  have HI := Lib.hid hi
  clear hi dr
  go_wp2_with fail
  refine (l91Many_any _ _ _ _ D2.out.rd (by omega)).mono ?_
  rintro e w3 ⟨m, rfl, hm, dr3⟩
  have D3 := Lib.hid (D2.out.trans dr3)
  have I3 := Lib.hid (HI.out.kt dr3.kt (by decide))
  clear dr3
  go_wp2_with fail
  refine (l91Tasks_any _ _ _ m _ D3.out.rd (by omega) (by omega)).mono ?_
  rintro e w4 ⟨vt, ts, rfl, ho, hdt, hl, dr4⟩
  have D4 := Lib.hid (D3.out.trans dr4)
  have HD := Lib.hid (show DrawnTasks w4 (.slice ra room.length rc) vt room ts from ⟨I3.out.kt dr4.kt (by decide), ho.done (by unfold lim; omega), hdt, by omega, ho.formc⟩)
  obtain ⟨ta, tc, rfl⟩ := ho.form
  have F := Lib.hid (E1.out.below D4.out.bl)
  clear dr4 ho
  go_wp2
  go_ret2
  exact ⟨_, _, room, ts, rfl, HD.out, F.out⟩

set_option maxHeartbeats 400000 in
theorem DrawTasksSort_any (v : Value) (n : Nat) (w : World) (h : ArgCode w v n) :
    Calls Try.prog 62 #[v] w fun e w' => ∃ vr vb room ts, e = .returned (.tuple #[vr, vb]) ∧ DrawnTasks w' vr vb room ts ∧ Ext w w' := by
  go_enter Try.func62, Try.ntmps62
  go_wp2_with fail
  refine (DrawTasksValid_any _ _ _ h).mono ?_
  rintro e w1 ⟨vr, vb, room, ts, rfl, hd, E1⟩
  have HD := Lib.hid hd
  clear hd
  go_wp2
  go_ret2
  exact ⟨_, _, room, ts, rfl, HD.out, E1⟩

set_option maxHeartbeats 400000 in
theorem DrawDownAll_any (v : Value) (n : Nat) (w : World) (h : ArgCode w v n) :
    Calls Try.prog 55 #[v] w fun e w' => ∃ vr vb room ts, e = .returned (.tuple #[vr, vb]) ∧ DrawnTasks w' vr vb room ts ∧ Ext w w' := by
  go_enter Try.func55, Try.ntmps55
  go_wp2_with fail
  refine (DrawTasksValid_any _ _ _ h).mono ?_
  rintro e w1 ⟨vr, vb, room, ts, rfl, hd, E1⟩
  have HD := Lib.hid hd
  clear hd
  go_wp2
  go_ret2
  exact ⟨_, _, room, ts, rfl, HD.out, E1⟩

end Go.Proofs.Ytcijbpjiioodlaa

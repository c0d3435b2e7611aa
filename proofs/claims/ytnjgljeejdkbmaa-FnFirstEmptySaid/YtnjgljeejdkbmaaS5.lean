/- The reference's bounds. -/
import Derived.Test.YtnjgljeejdkbmaaS4
namespace Go.Proofs.Ytnjgljeejdkbmaa
set_option maxRecDepth 100000
open Go.RowKit

/-- How many nodes a dimension asks for: the greatest number. -/
def quoL (load room : List Int) : List Int := List.zipWith (fun l r => (l + r - 1) / r) load room
def sumI (room : List Int) (ts : List T) : Int := (quoL (loadL ts) room).foldl max 0
def clashB (room : List Int) (a b : T) : Bool := !fitsB (addL a.need b.need 1) room
def takenL (room : List Int) (ts : List T) : List T := ts.foldl (fun s t => if s.all (fun u => clashB room u t) then s ++ [t] else s) []
def apartI (room : List Int) (ts : List T) : Int := (takenL room ts).length
def boundI (room : List Int) (ts : List T) : Int := if tasksB room ts = true then max (sumI room ts) (apartI room ts) else -1

theorem addL_nonneg {xs ys : List Int} (hx : ∀ n ∈ xs, 0 ≤ n) (hy : ∀ n ∈ ys, 0 ≤ n) : ∀ n ∈ addL xs ys 1, 0 ≤ n := by
  intro n hn
  unfold addL at hn
  obtain ⟨i, hi, rfl⟩ := List.getElem_of_mem hn
  rw [List.getElem_zipWith]
  have h1 := hx _ (List.getElem_mem (by simp at hi; omega : i < xs.length))
  have h2 := hy _ (List.getElem_mem (by simp at hi; omega : i < ys.length))
  omega
theorem loadL_nonneg (ts : List T) (h : ∀ t ∈ ts, ∀ n ∈ t.need, 0 ≤ n) : ∀ n ∈ loadL ts, 0 ≤ n := by
  suffices H : ∀ k, k ≤ ts.length → ∀ n ∈ loadL (ts.take k), 0 ≤ n by
    have := H ts.length (Nat.le_refl _)
    rwa [List.take_length] at this
  intro k
  induction k with
  | zero => intro _ n hn; simp [loadL] at hn; omega
  | succ k ih =>
    intro hk
    rw [loadL_step (by omega)]
    exact addL_nonneg (ih (by omega)) (h _ (List.getElem_mem _))
theorem TasksOk.nonneg {room : List Int} {ts : List T} (h : TasksOk room ts) : ∀ t ∈ ts, ∀ n ∈ t.need, 0 ≤ n := fun t ht n hn => by
  obtain ⟨k, hk, rfl⟩ := List.getElem_of_mem ht
  exact ((vfitsB_iff.1 (h.2.2 k hk).2.2).1.2 n hn).1

theorem quoL_step {xs ys : List Int} {k : Nat} (hx : xs.length = 3) (hy : ys.length = 3) (h : k < 3) : (quoL xs ys).take (k + 1) = (quoL xs ys).take k ++ [(xs[k] + ys[k] - 1) / ys[k]] := by
  match xs, hx, ys, hy, k, h with
  | [a, b, c], _, [x, y, z], _, 0, _ => rfl
  | [a, b, c], _, [x, y, z], _, 1, _ => rfl
  | [a, b, c], _, [x, y, z], _, 2, _ => rfl
theorem foldl_snoc_max (l : List Int) (x : Int) : (l ++ [x]).foldl max 0 = max (l.foldl max 0) x := by simp

set_option maxHeartbeats 1000000 in
theorem l5Sum_any (v u : Value) (room : List Int) (ts : List T) (w : World) (hr : Ints w v room) (h : Tasks w u ts) (hT : TasksOk room ts) :
    Calls Try.prog 60 #[v, u] w fun e w' => e = .returned (.int .i64 (sumI room ts)) ∧ Ext w w' := by
  obtain ⟨ar, capr, rfl, hr⟩ := hr.open
  have g := Lib.hid hT.good
  have gl := Lib.hid (loadL_good _ hT.good)
  have Hrm := Lib.hid hT.1
  have Hnn := Lib.hid (loadL_nonneg _ hT.nonneg)
  have h14 := hT.2.1
  have r3 := hT.1.1.1
  clear hT
  go_enter Try.func60, Try.ntmps60
  go_wp2_with fail
  refine (l2Load_any _ _ _ h g.out).mono ?_
  rintro e w1 ⟨r, rfl, hE, hi⟩
  obtain ⟨al, capl, rfl, hi⟩ := hi.open
  obtain ⟨bl, ol, rfl, hcl⟩ := hi.at (by have := gl.out.1; omega)
  obtain ⟨br, or, rfl, hcr⟩ := hr.at (by omega)
  have l3 := gl.out.1
  have Hcl := Lib.hid hcl
  have Hcr := Lib.hid hcr
  have R3 := Lib.hid r3
  have L3 := Lib.hid l3
  rw [l3, r3]
  clear hcl hcr hi l3 r3 hr
  go_wp2_with fail
  go_loopw [6, 7] (fun s i wr => ∃ (k : Nat) (m : Int), k ≤ 3 ∧ i = .int .i64 k ∧ s = .int .i64 m ∧ Ext w1 wr ∧ m = ((quoL (loadL ts) room).take k).foldl max 0) (fun _ i _ => 3 - (intOf i).toNat)
  case atStart => exact ⟨0, 0, by omega, rfl, rfl, Ext.refl _, rfl⟩
  case round =>
    obtain ⟨k, m, hk, rfl, rfl, hE2, hm⟩ := hrel
    have Hm := Lib.hid hm
    clear hm
    by_cases hlt : k < 3
    · have l1 : k < (loadL ts).length := by have := L3.out; omega
      have l2 : k < room.length := by have := R3.out; omega
      have c1 := hE2.cell (Hcl.out k l1)
      have c2 := hE2.cell (hE.cell (Hcr.out k l2))
      have b1 : (k : Int) < 3 := by omega
      have b0 : (0 : Int) ≤ (k : Int) := by omega
      have m1 : -100000000 ≤ (loadL ts)[k] ∧ (loadL ts)[k] ≤ 100000000 := by have := gl.out.2 _ (List.getElem_mem l1); omega
      have m0 : 0 ≤ (loadL ts)[k] := Hnn.out _ (List.getElem_mem l1)
      have m2 := Hrm.out.1.2 _ (List.getElem_mem l2)
      have m3 : 1 ≤ room[k] := Hrm.out.2 _ (List.getElem_mem l2)
      have Hst := Lib.hid (quoL_step L3.out R3.out hlt)
      go_wp2_with fail
      go_region
      have hE3 := hE2.drew
      clear hE2
      go_wp2
      go_roundw
      case rel => exact ⟨k + 1, _, by omega, by go_num, rfl, hE3, by rw [Hst.out, foldl_snoc_max, ← Hm.out]; split <;> omega⟩
      case measure => simp [intOf]; omega
    · have e : k = 3 := by omega
      subst e
      have Hd : Hid (sumI room ts = m) := by
        show sumI room ts = m
        rw [Hm.out]
        unfold sumI
        rw [List.take_of_length_le (by simp [quoL]; have := L3.out; have := R3.out; omega)]
      go_wp2
      go_ret
      exact ⟨ret_int Hd.out.symm, hE.trans hE2⟩

/-- A task's need can be added. -/
def Good1 (t : T) : Prop := t.need.length = 3 ∧ Bd 1000000 t.need

set_option maxHeartbeats 400000 in
theorem l5Clash_any (v : Value) (room : List Int) (x y : T) (w : World) (n1 n2 : Value) (hr : Ints w v room) (h1 : Ints w n1 x.need) (h2 : Ints w n2 y.need) (r3 : room.length = 3) (g1 : Good1 x) (g2 : Good1 y) :
    Calls Try.prog 95 #[v, .agg #[.int .i64 x.id, n1], .agg #[.int .i64 y.id, n2]] w fun e w' => e = .returned (.bool (clashB room x y)) ∧ Ext w w' := by
  obtain ⟨a1, c1, rfl, h1⟩ := h1.open
  obtain ⟨a2, c2, rfl, h2⟩ := h2.open
  have R3 := Lib.hid r3
  have G1 := Lib.hid g1
  have G2 := Lib.hid g2
  clear r3 g1 g2
  go_enter Try.func95, Try.ntmps95
  go_wp2_with fail
  have hEx : Ext w _ := ((Ext.refl w).alloc (Obj.cells #[.int .i64 x.id, .slice a1 x.need.length c1] 49)).alloc (Obj.cells #[.int .i64 y.id, .slice a2 y.need.length c2] 49)
  refine (l1Add_any _ _ _ _ 1 _ (h1.ext hEx) (h2.ext hEx) G1.out.1 G2.out.1 (.inl rfl) (G1.out.2.mono (by omega)) (G2.out.2.mono (by omega))).mono ?_
  rintro e w1 ⟨r, rfl, hE, hi⟩
  have hE1 := hEx.trans hE
  have Hi := Lib.hid hi
  clear hi hE hEx
  go_wp2_with fail
  refine (l1Fits_any _ _ _ _ _ Hi.out (hr.ext hE1) (addL_get G1.out.1 G2.out.1).1 R3.out).mono ?_
  rintro e w2 ⟨rfl, n, rfl⟩
  have hE2 := hE1.drewN n
  clear hE1
  go_wp2
  go_ret
  exact ⟨ret_bool rfl, hE2⟩

end Go.Proofs.Ytnjgljeejdkbmaa

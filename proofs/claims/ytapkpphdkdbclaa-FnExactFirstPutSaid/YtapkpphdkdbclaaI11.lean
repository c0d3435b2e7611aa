/- The program: the first node for a task; scores. -/
import Derived.Test.YtapkpphdkdbclaaI10
namespace Go.Proofs.Ytapkpphdkdbclaa
set_option maxRecDepth 100000
open Go.RowKit

set_option maxHeartbeats 1000000 in
theorem FirstAt_any (v u n : Value) (room : List Int) (bs : List (List T)) (x : T) (w : World) (hr : Ints w v room) (h : Bins w u bs) (hn : Ints w n x.need) (hf : bs.flatten.length ≤ 2097152) :
    Calls Try.prog 30 #[v, u, .agg #[.int .i64 x.id, n]] w fun e w' => e = .returned (.int .i64 (firstAtI room bs x)) ∧ Ext w w' := by
  obtain ⟨an, cn, rfl, hn⟩ := hn.open
  have E0 := Lib.hid ((Ext.refl w).alloc (Obj.cells #[.int .i64 x.id, .slice an x.need.length cn] 42))
  have C0 := Lib.hid (show (w.alloc (Obj.cells #[.int .i64 x.id, .slice an x.need.length cn] 42)).cell? ⟨w.heap.size, 0, none⟩ = some (.int .i64 x.id) by rw [box_cell]; rfl)
  have C1 := Lib.hid (show (w.alloc (Obj.cells #[.int .i64 x.id, .slice an x.need.length cn] 42)).cell? ⟨w.heap.size, 1, none⟩ = some (.slice an x.need.length cn) by rw [box_cell]; rfl)
  cases hb : ok11 room bs x with
  | false =>
    have Hd : Hid (firstAtI room bs x = -1) := by show firstAtI room bs x = -1; simp [firstAtI, hb]
    go_enter Try.func30, Try.ntmps30
    go_wp2_with fail
    have cc := canCome_any _ _ _ _ _ x _ (hr.ext E0.out) (h.ext E0.out) (hn.ext E0.out) hf
    rw [hb] at cc
    refine cc.mono ?_
    clear cc
    rintro e w2 ⟨rfl, hE2⟩
    go_wp2
    go_ret
    exact ⟨ret_int Hd.out.symm, E0.out.trans hE2⟩
  | true =>
    have Hd : Hid (firstAtI room bs x = nodeI (at11 room bs x)) := by show firstAtI room bs x = _; simp [firstAtI, hb]
    have HT := Lib.hid (show TasksOk room (bs.flatten ++ [x]) by unfold ok11 at hb; rw [Bool.and_eq_true] at hb; exact tasksB_iff.1 hb.2)
    have HO := Lib.hid (show BinsOk room bs by unfold ok11 at hb; rw [Bool.and_eq_true] at hb; exact binsB_iff.1 hb.1)
    go_enter Try.func30, Try.ntmps30
    go_wp2_with fail
    have cc := canCome_any _ _ _ _ _ x _ (hr.ext E0.out) (h.ext E0.out) (hn.ext E0.out) hf
    rw [hb] at cc
    clear hb
    refine cc.mono ?_
    clear cc
    rintro e w2 ⟨rfl, hE2⟩
    have E2 := Lib.hid (E0.out.trans hE2)
    have c0 := hE2.cell C0.out
    have c1 := hE2.cell C1.out
    clear hE2
    go_wp2_with fail
    refine (firstOf_any _ _ _ _ _ x _ (hr.ext E2.out) (h.ext E2.out) (hn.ext E2.out) HO.out.1.1.1.1 HO.out.goodB (HT.out.good x (by simp))).mono ?_
    rintro e w3 ⟨rfl, hE3⟩
    go_wp2
    go_ret
    exact ⟨ret_int Hd.out.symm, E2.out.trans hE3⟩

/-- The product of two vectors. -/
def dotI (xs ys : List Int) : Int := (List.zipWith (fun x y => x * y) xs ys).foldl (fun s z => s + z) 0
theorem dotI_step {xs ys : List Int} {k : Nat} (h1 : k < xs.length) (h2 : k < ys.length) : ((List.zipWith (fun x y => x * y) xs ys).take (k + 1)).foldl (fun s z => s + z) 0 = ((List.zipWith (fun x y => x * y) xs ys).take k).foldl (fun s z => s + z) 0 + xs[k] * ys[k] := by
  rw [List.take_succ_eq_append_getElem (by simp; omega), List.foldl_append, List.getElem_zipWith]
  rfl
theorem mul_bd {a b : Int} (ha : -1000000 ≤ a ∧ a ≤ 1000000) (hb : -100000000 ≤ b ∧ b ≤ 100000000) : -100000000000000 ≤ a * b ∧ a * b ≤ 100000000000000 := by
  have h1 : (a * b).natAbs ≤ 1000000 * 100000000 := by
    rw [Int.natAbs_mul]
    exact Nat.mul_le_mul (by omega) (by omega)
  omega

/-- What is left of a room. -/
def leftL (room : List Int) (b : List T) : List Int := addL room (loadL b) (-1)
theorem fits_left {room n l : List Int} (h1 : room.length = 3) (h2 : n.length = 3) (h3 : l.length = 3) : fitsB n (addL room l (-1)) = fitsB (addL l n 1) room := by
  match room, h1, n, h2, l, h3 with
  | [a, b, c], _, [x, y, z], _, [p, q, r], _ =>
    simp only [addL, List.zipWith_cons_cons, List.zipWith_nil_right, fitsB_three]
    rw [Bool.eq_iff_iff, decide_eq_true_eq, decide_eq_true_eq]
    omega
/-- A score, or -1 where there is no room. -/
def scoreI (room : List Int) (b : List T) (x : T) : Int := if fits11 room b x = true then dotI x.need (leftL room b) else -1
theorem left_bd {room : List Int} {b : List T} (hr : RoomOk room) (hg : Good b) (hl : b.length ≤ 50) : (leftL room b).length = 3 ∧ Bd 100000000 (leftL room b) := by
  have hg' := loadL_good b hg
  refine ⟨(addL_get hr.1.1 hg'.1).1, fun n hn => ?_⟩
  unfold leftL addL at hn
  obtain ⟨i, hi, rfl⟩ := List.getElem_of_mem hn
  rw [List.getElem_zipWith]
  have h1 := hr.1.2 _ (List.getElem_mem (by simp at hi; omega : i < room.length))
  have h2 := hg'.2 _ (List.getElem_mem (by simp at hi; omega : i < (loadL b).length))
  omega

end Go.Proofs.Ytapkpphdkdbclaa

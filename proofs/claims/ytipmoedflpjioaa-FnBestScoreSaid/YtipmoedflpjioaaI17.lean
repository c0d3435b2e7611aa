/- The program: what is left of a vector; the product of two. -/
import Derived.Test.YtipmoedflpjioaaI13
namespace Go.Proofs.Ytipmoedflpjioaa
set_option maxRecDepth 100000
open Go.RowKit

set_option maxHeartbeats 600000 in
/-- A vector less one that fits it. -/
theorem VecSub_yes (v u : Value) (xs ys : List Int) (w : World) (h : Ints w v xs) (h' : Ints w u ys) (hf : vfitsB ys xs = true) :
    Calls Try.prog 47 #[v, u] w fun e w' => ∃ r, e = .returned (.tuple #[r, .bool true]) ∧ Ext w w' ∧ Ints w' r (addL xs ys (-1)) := by
  have HF := Lib.hid (vfitsB_iff.1 hf)
  have Hf := Lib.hid hf
  clear hf
  go_enter Try.func47, Try.ntmps47
  go_wp2_with fail
  have cc := VecFits_any _ _ ys xs _ h' h
  rw [Hf.out] at cc
  refine cc.mono ?_
  clear cc
  rintro e w2 ⟨rfl, rfl⟩
  go_wp2_with fail
  refine (minus_any _ _ xs ys _ h h' HF.out.2.1.bd.1 HF.out.1.bd.1 (fun n hn => by have := HF.out.2.1.2 n hn; omega) (fun n hn => by have := HF.out.1.2 n hn; omega)).mono ?_
  rintro e w3 ⟨r, rfl, hE, hi⟩
  have HR := Lib.hid (show Ext w w3 ∧ Ints w3 r (addL xs ys (-1)) from ⟨hE, hi⟩)
  obtain ⟨ra, rc, rfl, -⟩ := hi.open
  clear hE
  go_wp2
  go_ret2
  exact ⟨_, rfl, HR.out.1, HR.out.2⟩

set_option maxHeartbeats 600000 in
theorem VecDot_yes (v u : Value) (xs ys : List Int) (w : World) (h : Ints w v xs) (h' : Ints w u ys) (hx : VecOk xs) (hy : VecOk ys) :
    Calls Try.prog 49 #[v, u] w fun e w' => e = .returned (.int .i64 (dotI xs ys)) ∧ w = w' := by
  have HX := Lib.hid hx
  have HY := Lib.hid hy
  have HB := Lib.hid (show (vecB xs && vecB ys) = true by rw [vecB_iff.2 hx, vecB_iff.2 hy]; rfl)
  clear hx hy
  go_enter Try.func49, Try.ntmps49
  go_wp2_with fail
  have cc := bothValid_any _ _ xs ys _ h h'
  rw [HB.out] at cc
  refine cc.mono ?_
  clear cc
  rintro e w2 ⟨rfl, rfl⟩
  go_wp2_with fail
  refine (dot_any _ _ xs ys _ h h' HX.out.1 HY.out.1 (fun n hn => by have := HX.out.2 n hn; omega) (fun n hn => by have := HY.out.2 n hn; omega)).mono ?_
  rintro e w3 ⟨rfl, rfl⟩
  go_wp2
  go_ret
  exact ⟨rfl, rfl⟩

end Go.Proofs.Ytipmoedflpjioaa

/- impl.LeastAll: the search with a stack finds the first way with the fewest nodes (printed by gen_ll.py). No condition. -/
import Derived.Test.YtfidamjepjgknaaDoorLsk
import Derived.Test.YtfidamjepjgknaaDoorPla
import Derived.Test.YtfidamjepjgknaaDoorLe1
import Derived.Test.YtfidamjepjgknaaDoorLe2
import Derived.Test.YtfidamjepjgknaaDoorI16
import Derived.Test.YtfidamjepjgknaaDoorRegZ
namespace Go.Proofs.YtfidamjepjgknaaDoor
set_option maxRecDepth 100000
open Go.RowKit

/-- Where the search stands: the places so far (the last one first), and the next one to try. -/
structure LRel (wb : World) (room : List Int) (ts : List T) (most : Nat) (g : List Nat × Nat) (s6 s7 s8 : Value) (wr : World) : Prop where
  ext : Ext wb wr
  nest : NestW wb wr wb.heap.size wb.heap.size s6 (putR ts g.1)
  stk : OwnTr wr wb.heap.size s7 ((g.1.map (· + 1)).reverse ++ [g.2])
  whr : OwnInts wr wb.heap.size s8 (g.1.reverse.map fun (a : Nat) => (a : Int))
  len : g.1.length ≤ ts.length
  ok : PlacesOk ts g.1
  now : nowL room most ts g.1 g.2 = some (leastW room ts)
  nx : g.2 ≤ (putR ts g.1).length + 1
  cap : (putR ts g.1).length ≤ most
def LInv (wb : World) (room : List Int) (ts : List T) (most : Nat) (s6 s7 s8 : Value) (wr : World) : Prop := ∃ g, LRel wb room ts most g s6 s7 s8 wr
/-- The steps that are left, read off the stack's row. -/
def LMeas (s7 : Value) (wr : World) : Nat :=
  match s7 with
  | .slice (some ⟨b, _, _⟩) n _ => remL ((List.range n).map fun j => match wr.cell? ⟨b, j, none⟩ with
    | some (.int _ d) => d.toNat
    | _ => 0).reverse
  | _ => 0
theorem LMeas_of {wr : World} {B : Nat} {s7 : Value} {ds : List Nat} {n : Nat} (h : OwnTr wr B s7 (ds ++ [n])) : LMeas s7 wr = remL (n :: ds.reverse) := by
  obtain ⟨g, c, rfl, -⟩ := h.open
  obtain ⟨g', e, hm, -, -, hc, -⟩ := ownsRow_at h (by simp)
  cases e
  unfold LMeas
  rw [hm]
  have e : ((List.range (ds ++ [n]).length).map fun j => match wr.cell? ⟨g, j, none⟩ with
    | some (.int _ d) => d.toNat
    | _ => 0) = ds ++ [n] := by
    refine List.ext_getElem (by simp) fun j h1 h2 => ?_
    rw [List.getElem_map, List.getElem_range, hc j (by simpa using h2), List.getElem?_map, List.getElem?_eq_getElem h2]
    simp
  simp only at e ⊢
  rw [e, List.reverse_append]
  rfl
theorem LMeas_rel {wb wr : World} {room : List Int} {ts : List T} {most : Nat} {g : List Nat × Nat} {s6 s7 s8 : Value} (h : LRel wb room ts most g s6 s7 s8 wr) : LMeas s7 wr = remL (g.2 :: g.1.map (· + 1)) := by
  have := LMeas_of h.stk
  rwa [List.reverse_reverse] at this
theorem LMeas_lt {wb wr : World} {room : List Int} {ts : List T} {most M : Nat} {g : List Nat × Nat} {s6 s7 s8 : Value} (h : LRel wb room ts most g s6 s7 s8 wr) (hl : remL (g.2 :: g.1.map (· + 1)) < M) : LMeas s7 wr < M := by
  rw [LMeas_rel h]
  exact hl
theorem LRel.push {wb wo w' : World} {room : List Int} {ts : List T} {most n k : Nat} {rs : List Nat} {s6 s7 s8 s6' s7' s8' : Value} {x : T} (h : LRel wb room ts most (rs, n) s6 s7 s8 wo) (h7 : ts.length ≤ 7) (hlt : rs.length < ts.length) (hx : ts[rs.length] = x) (hnk : n ≤ k)
    (hnow : nowL room most ts rs k = some (leastW room ts)) (hk : (k < (putR ts rs).length ∧ fits11 room ((putR ts rs).getD k []) x = true) ∨ (k = (putR ts rs).length ∧ (putR ts rs).length < most)) (ext : Ext wb w')
    (nest : NestW wb w' wb.heap.size wb.heap.size s6' (placeL (putR ts rs) k x)) (stk : OwnTr w' wb.heap.size s7' (((rs.map (· + 1)).reverse ++ [k + 1]) ++ [0])) (whr : OwnInts w' wb.heap.size s8' ((rs.reverse.map fun (a : Nat) => (a : Int)) ++ [(k : Int)])) :
    LRel wb room ts most (k :: rs, 0) s6' s7' s8' w' ∧ remL (0 :: (k :: rs).map (· + 1)) < remL (n :: rs.map (· + 1)) := by
  subst hx
  have e : ts.getD rs.length ⟨0, []⟩ = ts[rs.length] := by rw [List.getD_eq_getElem?_getD, List.getElem?_eq_getElem hlt]; rfl
  have ep : putR ts (k :: rs) = placeL (putR ts rs) k ts[rs.length] := by rw [← e]; rfl
  have hle : k ≤ (putR ts rs).length := by rcases hk with hk | hk <;> omega
  have hcap := h.cap
  have hl := (putR_ok (show PlacesOk ts rs from h.ok) h.len).2
  simp only at hcap hl
  refine ⟨⟨ext, by rw [ep]; exact nest, ?_, ?_, hlt, ⟨h.ok, hle⟩, ?_, Nat.zero_le _, ?_⟩, rem_push _ hnk (by omega) (by simp; omega)⟩
  · simpa using stk
  · simpa using whr
  · rw [← hnow]
    exact (now_push hlt hk).symm
  · show (putR ts (k :: rs)).length ≤ most
    rw [ep]
    rcases hk with ⟨hk, _⟩ | ⟨rfl, hk⟩
    · rw [place_some hk]; simpa using hcap
    · rw [place_new]; simp; omega
theorem LRel.pop {wb wo w' : World} {room : List Int} {ts : List T} {most n k a : Nat} {rs : List Nat} {s6 s7 s8 s6' s7' s8' : Value} (h : LRel wb room ts most (a :: rs, n) s6 s7 s8 wo) (h7 : ts.length ≤ 7) (hlt : rs.length + 1 < ts.length)
    (hnow : nowL room most ts (a :: rs) k = some (leastW room ts)) (hend : (putR ts (a :: rs)).length < k ∨ (k = (putR ts (a :: rs)).length ∧ ¬ (putR ts (a :: rs)).length < most)) (ext : Ext wb w')
    (nest : NestW wb w' wb.heap.size wb.heap.size s6' (putR ts rs)) (stk : OwnTr w' wb.heap.size s7' ((rs.map (· + 1)).reverse ++ [a + 1])) (whr : OwnInts w' wb.heap.size s8' (rs.reverse.map fun (a : Nat) => (a : Int))) :
    LRel wb room ts most (rs, a + 1) s6' s7' s8' w' ∧ remL ((a + 1) :: rs.map (· + 1)) < remL (n :: (a :: rs).map (· + 1)) := by
  have hnx := h.nx
  have hcap := h.cap
  have hl := (putR_ok (show PlacesOk ts (a :: rs) from h.ok) h.len).2
  simp only [List.length_cons] at hcap hl hnx
  refine ⟨⟨ext, nest, stk, whr, by simp; omega, h.ok.1, ?_, Nat.succ_le_succ h.ok.2, ?_⟩, rem_pop _ (by omega)⟩
  · rw [← hnow]
    exact (now_pop hlt hend).symm
  · exact Nat.le_trans (place_len _ _ _) hcap

set_option maxHeartbeats 16000000 in
theorem LeastAll_any (v u : Value) (room : List Int) (ts : List T) (w : World) (hr : Ints w v room) (h : Tasks w u ts) (ht : TabW w) :
    Calls Tryd.prog 5 #[v, u] w fun e w' => ∃ a c, e = .returned (.slice a (leastAllL room ts).length c) ∧ Ext w w' ∧ NestS w' w.heap.size (.slice a (leastAllL room ts).length c) (leastAllL room ts) := by
  have cc := few_any v u room ts w hr h
  obtain ⟨ra, rc, rfl, hr⟩ := hr.open
  obtain ⟨ta, tc, rfl, h⟩ := h.open
  have HRm := Lib.hid hr
  have HT := Lib.hid h
  have HTW := Lib.hid ht
  clear hr h ht
  cases hb : fewB room ts with
  | false =>
    have Hd : Hid (leastAllL room ts = []) := by show leastAllL room ts = _; unfold leastAllL; rw [hb]; rfl
    rw [hb] at cc
    clear hb
    go_enter Tryd.func5, Tryd.ntmps5
    go_wp2_with fail
    refine cc.mono ?_
    clear cc
    rintro e w1 ⟨rfl, hE⟩
    go_wp2
    go_ret
    exact ⟨none, 0, by rw [Hd.out]; rfl, hE, by rw [Hd.out]; exact NestS.nil _ _⟩
  | true =>
    obtain ⟨h7, hT⟩ := fewB_iff.1 hb
    have Hd : Hid (leastAllL room ts = leastW room ts) := by show leastAllL room ts = _; unfold leastAllL; rw [hb]; rfl
    have OKT := Lib.hid hT
    have R3 := Lib.hid hT.1.1.1
    rw [hb] at cc
    clear hb hT
    go_enter Tryd.func5, Tryd.ntmps5
    go_wp2_with fail
    refine cc.mono ?_
    clear cc
    rintro e w1 ⟨rfl, hE⟩
    have E1 := Lib.hid hE
    clear hE
    go_wp2_with fail
    refine (leastOf_any _ _ room ts w1 (HRm.out.ext E1.out) (HT.out.ext E1.out) h7 OKT.out (HTW.out.ext E1.out)).mono ?_
    rintro e wb ⟨rfl, hE⟩
    have EB := Lib.hid (E1.out.trans hE)
    have HRm := Lib.hid (HRm.out.ext EB.out)
    have HT := Lib.hid (HT.out.ext EB.out)
    clear hE HTW E1
    have N7 : leastN room ts ≤ 7 := Nat.le_trans (leastW_spec OKT.out).2.1 h7
    have START := Lib.hid (show LRel wb room ts (leastN room ts) ([], 0) (.slice (some ⟨wb.heap.size, 0, none⟩) 0 0) (.slice (some ⟨wb.heap.size + 1, 0, none⟩) 1 1) (.slice (some ⟨wb.heap.size + 1 + 1, 0, none⟩) 0 0) (((wb.alloc (.cells #[] 24)).alloc (.cells #[.int .i64 0] 40)).alloc (.cells #[] 3)) from
      { ext := (((Ext.refl wb).alloc _).alloc _).alloc _
        nest := (NestW.lit0 wb wb wb.heap.size wb.heap.size (Nat.le_refl _)).ext (((Ext.refl _).alloc _).alloc _)
        stk := by
          have := World.ownsRow_lit (e := 40) (size := 1) (base := wb.heap.size) (wb.alloc (.cells #[] 24)) #[.int .i64 0] 1 (by simp) (by simp [maxLen]) rfl
          rw [World.size_alloc] at this
          exact OwnTr.ext (ds := [0]) this ((Ext.refl _).alloc _)
        whr := by
          have := OwnInts.lit0 ((wb.alloc (.cells #[] 24)).alloc (.cells #[.int .i64 0] 40)) wb.heap.size (by simp; omega)
          rw [World.size_alloc, World.size_alloc] at this
          exact this
        len := Nat.zero_le _
        ok := trivial
        now := (now_start _ _ _).trans (leastW_spec OKT.out).1
        nx := Nat.zero_le _
        cap := Nat.zero_le _ })
    go_wp2_with fail
    generalize ((wb.alloc (.cells #[] 24)).alloc (.cells #[.int .i64 0] 40)).alloc (.cells #[] 3) = w0 at *
    go_loopw [6, 7, 8, 9, 10, 11, 12] (fun s6 s7 s8 _ _ _ _ wr => LInv wb room ts (leastN room ts) s6 s7 s8 wr) (fun _ s7 _ _ _ _ _ wr => LMeas s7 wr)
    case atStart => exact ⟨_, START.out⟩
    case round =>
      clear START
      obtain ⟨wo, rfl⟩ : ∃ wo : World, wo = wr := ⟨_, rfl⟩
      obtain ⟨⟨rs, n⟩, hR⟩ := hrel
      have R := Lib.hid hR
      have M := Lib.hid (show LMeas _ wo = remL (n :: rs.map (· + 1)) from LMeas_rel hR)
      have hnest : NestW wb wo wb.heap.size wb.heap.size _ (putR ts rs) := hR.nest
      have hstk : OwnTr wo wb.heap.size _ ((rs.map (· + 1)).reverse ++ [n]) := hR.stk
      have hwhr : OwnInts wo wb.heap.size _ (rs.reverse.map fun (a : Nat) => (a : Int)) := hR.whr
      have hext : Ext wb wo := hR.ext
      have hpl : rs.length ≤ ts.length := hR.len
      obtain ⟨ba, bc, rfl⟩ := hnest.form
      obtain ⟨sg, sc, rfl, hsg, hsc, ctop, ftop⟩ := hstk.open
      obtain ⟨wa, wc, hwf⟩ := hwhr.shape
      subst hwf
      have lenw : (rs.reverse.map fun (a : Nat) => (a : Int)).length = rs.length := by simp
      have lens : (rs.map (· + 1)).reverse.length = rs.length := by simp
      have SK := Lib.hid (show OwnTr wo wb.heap.size (.slice (some ⟨sg, 0, none⟩) (rs.length + 1) sc) ((rs.map (· + 1)).reverse ++ [n]) by rw [lens] at hstk; exact hstk)
      have WK := Lib.hid (show OwnInts wo wb.heap.size (.slice wa rs.length wc) (rs.reverse.map fun (a : Nat) => (a : Int)) by rw [lenw] at hwhr; exact hwhr)
      have LS := Lib.hid lens
      have LW := Lib.hid lenw
      simp only [lens] at ctop ftop hsc M ⊢
      simp only [lenw]
      have CT := Lib.hid ctop
      have FT := Lib.hid ftop
      clear ctop ftop lenw lens hR hnest hstk hwhr
      by_cases hlt : rs.length < ts.length
      · have b1 : (rs.length : Int) < (ts.length : Int) := by omega
        have b0 : (0 : Int) ≤ (rs.length : Int) := by omega
        obtain ⟨x, hx⟩ : ∃ x, ts[rs.length] = x := ⟨_, rfl⟩
        obtain ⟨tb0, toff, nd, hta, c0, c1, hn⟩ := HT.out.at hlt
        subst hta
        rw [hx] at c0 hn
        obtain ⟨na, nc, rfl, hn'⟩ := hn.open
        have NX := Lib.hid hn'
        have GX := Lib.hid (show Good1 x from hx ▸ OKT.out.good _ (List.getElem_mem hlt))
        have d0 := hext.cell c0
        have d1 := hext.cell c1
        have HX := Lib.hid hx
        have XA := Lib.hid (heap_alloc_new wo (Obj.cells #[.int .i64 x.id, .slice na x.need.length nc] 31))
        have EA := Lib.hid ((Ext.refl wo).alloc (Obj.cells #[.int .i64 x.id, .slice na x.need.length nc] 31))
        have ct2 := EA.out.cell CT.out
        have POK := Lib.hid (putR_ok (show PlacesOk ts rs from R.out.ok) hpl)
        have hm7 : (putR ts rs).length ≤ 7 := by have := POK.out.2; omega
        have nx : n ≤ (putR ts rs).length + 1 := R.out.nx
        have EXT := Lib.hid hext
        clear hn hn' c0 c1 hx hext
        go_wp2_with fail
        obtain ⟨X, hX⟩ : ∃ X, X = wo.heap.size := ⟨_, rfl⟩
        rw [← hX] at XA
        rw [← hX]
        have hXo : wo.heap.size ≤ X := by omega
        clear hX ct2 d0 d1
        generalize wo.alloc (Obj.cells #[.int .i64 x.id, .slice na x.need.length nc] 31) = wA at *
        go_loopw [11] (fun i wx => ∃ k : Nat, i = .int .i64 (k : Int) ∧ n ≤ k ∧ k ≤ (putR ts rs).length + 1 ∧ nowL room (leastN room ts) ts rs k = some (leastW room ts) ∧ Ext wA wx) (fun i _ => (putR ts rs).length + 1 - (intOf i).toNat)
        case atStart => exact ⟨n, rfl, Nat.le_refl _, nx, R.out.now, Ext.refl _⟩
        case round =>
          obtain ⟨wx, rfl⟩ : ∃ wx : World, wx = wr := ⟨_, rfl⟩
          obtain ⟨k, rfl, hnk, hk, hnow, hE⟩ := hrel
          have NOW := Lib.hid hnow
          have EX := Lib.hid (EA.out.trans hE)
          have EW := Lib.hid (EXT.out.trans EX.out)
          have NB := Lib.hid (show NestW wb wx wb.heap.size wb.heap.size (.slice ba (putR ts rs).length bc) (putR ts rs) from NestW.ext R.out.nest EX.out)
          have XB := Lib.hid ((hE.block (lt_of_heap XA.out)).trans XA.out)
          have k0 : (0 : Int) ≤ (k : Int) := by omega
          clear hnow
          by_cases hkl : k < (putR ts rs).length
          · have k1 : (k : Int) < ((putR ts rs).length : Int) := by omega
            have k2 : ¬ (((putR ts rs).length : Int) < (k : Int)) := by omega
            have k3 : ((k : Int) == ((putR ts rs).length : Int)) = false := beq_eq_false_iff_ne.2 (by omega)
            obtain ⟨bb, nd, hba, -, hbc, hBb, cb0, hot0, fb0⟩ := (show NestW wb wo wb.heap.size wb.heap.size (.slice ba (putR ts rs).length bc) (putR ts rs) from R.out.nest).at hkl
            subst hba
            have hot := hot0.ext EX.out
            have cb := EX.out.cell cb0
            have fb : wx.frozen? ⟨bb, k, none⟩ = false := (Ext.frozen (p := ⟨bb, k, none⟩) EX.out (World.block_lt_of_cell? wo _ cb0)).trans fb0
            have OB := Lib.hid (show ∀ g, nd.ownBlock = some g → g < X from fun g hg => Nat.lt_of_lt_of_le (hot0.lt hg) hXo)
            clear hot0 cb0 fb0
            obtain ⟨bl, hbl⟩ : ∃ bl, bl = (putR ts rs)[k].length := ⟨_, rfl⟩
            obtain ⟨oa, oc, hnd⟩ : ∃ a c, nd = .slice a bl c := by rw [hbl]; exact hot.form
            subst hnd
            have GB := Lib.hid (show Good (putR ts rs)[k] from fun t ht => OKT.out.good t ((POK.out.1 _ (List.getElem_mem hkl)).2.2 t ht))
            have BL := Lib.hid (show (putR ts rs)[k].length ≤ 7 from by have := (POK.out.1 _ (List.getElem_mem hkl)).2.1; omega)
            have TB := Lib.hid ((hot.own EW.out).done (by have := BL.out; unfold lim; omega))
            have HO := Lib.hid hot
            have HG := Lib.hid hkl
            have CB := Lib.hid cb
            have FB := Lib.hid fb
            have HBL := Lib.hid hbl
            have HBb := Lib.hid hBb
            have HBC := Lib.hid hbc
            clear cb fb hot hbl hBb hbc
            cases hf : fits11 room (putR ts rs)[k] x with
            | false =>
              have HF := Lib.hid (show nowL room (leastN room ts) ts rs (k + 1) = some (leastW room ts) from by
                rw [← NOW.out]
                exact (now_skip hlt hkl (by rw [getD_at hkl, HX.out]; exact hf)).symm)
              go_wp2_with fail
              refine wp_region_held_drew (S := fun w' => w'.cell? ⟨bb, k, none⟩ = some (.slice oa bl oc) ∧ w'.heap[X]? = some (Obj.cells #[.int .i64 x.id, .slice na x.need.length nc] 31)) (by kernel_rfl) (⟨CB.out, XB.out⟩) (fun hHeld => ?_)
              refine takeH (i := 0) (d := some 43) (v := ?_) rfl rfl (by kernel_rfl) (by kernel_rfl) (by kernel_rfl) (fun _ _ _ h => h) (by rfl) ?_ (by assumption) ?_
              rotate_left
              · intro w hSw; (try dsimp only at hSw); (try go_simp); (try with_reducible rfl)
              try simp only [Act.put, List.setIfInBounds_toArray, List.set_cons_zero, List.set_cons_succ]
              refine takeH (i := 1) (d := some 44) (v := ?_) rfl rfl (by kernel_rfl) (by kernel_rfl) (by kernel_rfl) (fun _ _ _ h => h) (by rfl) ?_ (by assumption) ?_
              rotate_left
              · intro w hSw; (try dsimp only at hSw); (try go_simp); (try with_reducible rfl)
              try simp only [Act.put, List.setIfInBounds_toArray, List.set_cons_zero, List.set_cons_succ]
              refine takeH (i := 2) (d := some 45) (v := ?_) rfl rfl (by kernel_rfl) (by kernel_rfl) (by kernel_rfl) (fun _ _ _ h => h) (by rfl) ?_ (by assumption) ?_
              rotate_left
              · intro w hSw; (try dsimp only at hSw); (try go_simp); (try with_reducible rfl)
              try simp only [Act.put, List.setIfInBounds_toArray, List.set_cons_zero, List.set_cons_succ]
              refine takeH (i := 3) (d := some 46) (v := ?_) rfl rfl (by kernel_rfl) (by kernel_rfl) (by kernel_rfl) (fun _ _ _ h => h) (by rfl) ?_ (by assumption) ?_
              rotate_left
              · intro w hSw; (try dsimp only at hSw); (try go_simp); (try with_reducible rfl)
              try simp only [Act.put, List.setIfInBounds_toArray, List.set_cons_zero, List.set_cons_succ]
              refine takeH (i := 4) (d := some 47) (v := ?_) rfl rfl (by kernel_rfl) (by kernel_rfl) (by kernel_rfl) (fun _ _ _ h => h) (by rfl) ?_ (by assumption) ?_
              rotate_left
              · intro w hSw; (try dsimp only at hSw); (try go_simp); (try with_reducible rfl)
              try simp only [Act.put, List.setIfInBounds_toArray, List.set_cons_zero, List.set_cons_succ]
              refine takeH (i := 5) (d := some 48) (v := ?_) rfl rfl (by kernel_rfl) (by kernel_rfl) (by kernel_rfl) (fun _ _ _ h => h) (by rfl) ?_ (by assumption) ?_
              rotate_left
              · intro w hSw; (try dsimp only at hSw); (try go_simp); (try with_reducible rfl)
              try simp only [Act.put, List.setIfInBounds_toArray, List.set_cons_zero, List.set_cons_succ]
              refine takeH (i := 6) (d := some 49) (v := ?_) rfl rfl (by kernel_rfl) (by kernel_rfl) (by kernel_rfl) (fun _ _ _ h => h) (by rfl) ?_ (by assumption) ?_
              rotate_left
              · intro w hSw; (try dsimp only at hSw); (try go_simp); (try with_reducible rfl)
              try simp only [Act.put, List.setIfInBounds_toArray, List.set_cons_zero, List.set_cons_succ]
              refine takeH (i := 7) (d := some 50) (v := ?_) rfl rfl (by kernel_rfl) (by kernel_rfl) (by kernel_rfl) (fun _ _ _ h => h) (by rfl) ?_ (by assumption) ?_
              rotate_left
              · intro w hSw; (try dsimp only at hSw); (try go_simp); (try with_reducible rfl)
              try simp only [Act.put, List.setIfInBounds_toArray, List.set_cons_zero, List.set_cons_succ]
              refine takeH (i := 8) (d := some 51) (v := ?_) rfl rfl (by kernel_rfl) (by kernel_rfl) (by kernel_rfl) (fun _ _ _ h => h) (by rfl) ?_ (by assumption) ?_
              rotate_left
              · intro w hSw; (try dsimp only at hSw); (try go_simp); (try with_reducible rfl)
              try simp only [Act.put, List.setIfInBounds_toArray, List.set_cons_zero, List.set_cons_succ]
              refine takeH (i := 9) (d := some 52) (v := ?_) rfl rfl (by kernel_rfl) (by kernel_rfl) (by kernel_rfl) (fun _ _ _ h => h) (by rfl) ?_ (by assumption) ?_
              rotate_left
              · intro w hSw; (try dsimp only at hSw); (try have l0 := hSw.1; go_simp); (try with_reducible rfl)
              try simp only [Act.put, List.setIfInBounds_toArray, List.set_cons_zero, List.set_cons_succ]
              refine takeH (i := 10) (d := some 53) (v := ?_) rfl rfl (by kernel_rfl) (by kernel_rfl) (by kernel_rfl) (fun _ _ _ h => h) (by rfl) ?_ (by assumption) ?_
              rotate_left
              · intro w hSw; (try dsimp only at hSw); (try have l0 := cell_of_heap hSw.2 0; have l1 := cell_of_heap hSw.2 1; go_simp); (try with_reducible rfl)
              try simp only [Act.put, List.setIfInBounds_toArray, List.set_cons_zero, List.set_cons_succ]
              refine oneH (i := 11) (by kernel_rfl) rfl (by rfl) (fun K hK => ?_)
              go_simp
              refine (hasRoom_any _ _ _ room (putR ts rs)[k] x _ (HRm.out.ext (EW.out.trans (Ext.refl wx).drew)) (TB.out.ext (Ext.refl wx).drew) (NX.out.ext (EW.out.trans (Ext.refl wx).drew)) R3.out GB.out GX.out).mono ?_; rintro e w2 ⟨rfl, hE2⟩; have E2 := Lib.hid ((Ext.refl wx).drew.trans hE2); clear hE2
              try dsimp only
              refine hK.out _ _ (⟨E2.out.cell CB.out, (E2.out.block (lt_of_heap XB.out)).trans XB.out⟩) (fun hHeld => ?_)
              clear hK K
              try simp only [Act.put, List.setIfInBounds_toArray, List.set_cons_zero, List.set_cons_succ]
              rw [hf]
              refine takeH (i := 12) (d := some 55) (v := ?_) rfl rfl (by kernel_rfl) (by kernel_rfl) (by kernel_rfl) (fun _ _ _ h => h) (by rfl) ?_ (by assumption) ?_
              rotate_left
              · intro w hSw; (try dsimp only at hSw); (try go_simp); (try with_reducible rfl)
              try simp only [Act.put, List.setIfInBounds_toArray, List.set_cons_zero, List.set_cons_succ]
              refine takeH (i := 13) (d := some 56) (v := ?_) rfl rfl (by kernel_rfl) (by kernel_rfl) (by kernel_rfl) (fun _ _ _ h => h) (by rfl) ?_ (by assumption) ?_
              rotate_left
              · intro w hSw; (try dsimp only at hSw); (try go_simp); (try with_reducible rfl)
              try simp only [Act.put, List.setIfInBounds_toArray, List.set_cons_zero, List.set_cons_succ]
              refine wpAnyH_done (by kernel_rfl) ?_ _
              go_wp2_with fail
              go_roundw
              case rel => exact ⟨k + 1, by go_num, by omega, by omega, HF.out, hE.trans E2.out⟩
              case measure => simp [intOf]; omega
            | true =>
              go_wp2_with fail
              refine wp_region_held_drew (S := fun w' => w'.cell? ⟨bb, k, none⟩ = some (.slice oa bl oc) ∧ w'.heap[X]? = some (Obj.cells #[.int .i64 x.id, .slice na x.need.length nc] 31)) (by kernel_rfl) (⟨CB.out, XB.out⟩) (fun hHeld => ?_)
              refine takeH (i := 0) (d := some 43) (v := ?_) rfl rfl (by kernel_rfl) (by kernel_rfl) (by kernel_rfl) (fun _ _ _ h => h) (by rfl) ?_ (by assumption) ?_
              rotate_left
              · intro w hSw; (try dsimp only at hSw); (try go_simp); (try with_reducible rfl)
              try simp only [Act.put, List.setIfInBounds_toArray, List.set_cons_zero, List.set_cons_succ]
              refine takeH (i := 1) (d := some 44) (v := ?_) rfl rfl (by kernel_rfl) (by kernel_rfl) (by kernel_rfl) (fun _ _ _ h => h) (by rfl) ?_ (by assumption) ?_
              rotate_left
              · intro w hSw; (try dsimp only at hSw); (try go_simp); (try with_reducible rfl)
              try simp only [Act.put, List.setIfInBounds_toArray, List.set_cons_zero, List.set_cons_succ]
              refine takeH (i := 2) (d := some 45) (v := ?_) rfl rfl (by kernel_rfl) (by kernel_rfl) (by kernel_rfl) (fun _ _ _ h => h) (by rfl) ?_ (by assumption) ?_
              rotate_left
              · intro w hSw; (try dsimp only at hSw); (try go_simp); (try with_reducible rfl)
              try simp only [Act.put, List.setIfInBounds_toArray, List.set_cons_zero, List.set_cons_succ]
              refine takeH (i := 3) (d := some 46) (v := ?_) rfl rfl (by kernel_rfl) (by kernel_rfl) (by kernel_rfl) (fun _ _ _ h => h) (by rfl) ?_ (by assumption) ?_
              rotate_left
              · intro w hSw; (try dsimp only at hSw); (try go_simp); (try with_reducible rfl)
              try simp only [Act.put, List.setIfInBounds_toArray, List.set_cons_zero, List.set_cons_succ]
              refine takeH (i := 4) (d := some 47) (v := ?_) rfl rfl (by kernel_rfl) (by kernel_rfl) (by kernel_rfl) (fun _ _ _ h => h) (by rfl) ?_ (by assumption) ?_
              rotate_left
              · intro w hSw; (try dsimp only at hSw); (try go_simp); (try with_reducible rfl)
              try simp only [Act.put, List.setIfInBounds_toArray, List.set_cons_zero, List.set_cons_succ]
              refine takeH (i := 5) (d := some 48) (v := ?_) rfl rfl (by kernel_rfl) (by kernel_rfl) (by kernel_rfl) (fun _ _ _ h => h) (by rfl) ?_ (by assumption) ?_
              rotate_left
              · intro w hSw; (try dsimp only at hSw); (try go_simp); (try with_reducible rfl)
              try simp only [Act.put, List.setIfInBounds_toArray, List.set_cons_zero, List.set_cons_succ]
              refine takeH (i := 6) (d := some 49) (v := ?_) rfl rfl (by kernel_rfl) (by kernel_rfl) (by kernel_rfl) (fun _ _ _ h => h) (by rfl) ?_ (by assumption) ?_
              rotate_left
              · intro w hSw; (try dsimp only at hSw); (try go_simp); (try with_reducible rfl)
              try simp only [Act.put, List.setIfInBounds_toArray, List.set_cons_zero, List.set_cons_succ]
              refine takeH (i := 7) (d := some 50) (v := ?_) rfl rfl (by kernel_rfl) (by kernel_rfl) (by kernel_rfl) (fun _ _ _ h => h) (by rfl) ?_ (by assumption) ?_
              rotate_left
              · intro w hSw; (try dsimp only at hSw); (try go_simp); (try with_reducible rfl)
              try simp only [Act.put, List.setIfInBounds_toArray, List.set_cons_zero, List.set_cons_succ]
              refine takeH (i := 8) (d := some 51) (v := ?_) rfl rfl (by kernel_rfl) (by kernel_rfl) (by kernel_rfl) (fun _ _ _ h => h) (by rfl) ?_ (by assumption) ?_
              rotate_left
              · intro w hSw; (try dsimp only at hSw); (try go_simp); (try with_reducible rfl)
              try simp only [Act.put, List.setIfInBounds_toArray, List.set_cons_zero, List.set_cons_succ]
              refine takeH (i := 9) (d := some 52) (v := ?_) rfl rfl (by kernel_rfl) (by kernel_rfl) (by kernel_rfl) (fun _ _ _ h => h) (by rfl) ?_ (by assumption) ?_
              rotate_left
              · intro w hSw; (try dsimp only at hSw); (try have l0 := hSw.1; go_simp); (try with_reducible rfl)
              try simp only [Act.put, List.setIfInBounds_toArray, List.set_cons_zero, List.set_cons_succ]
              refine takeH (i := 10) (d := some 53) (v := ?_) rfl rfl (by kernel_rfl) (by kernel_rfl) (by kernel_rfl) (fun _ _ _ h => h) (by rfl) ?_ (by assumption) ?_
              rotate_left
              · intro w hSw; (try dsimp only at hSw); (try have l0 := cell_of_heap hSw.2 0; have l1 := cell_of_heap hSw.2 1; go_simp); (try with_reducible rfl)
              try simp only [Act.put, List.setIfInBounds_toArray, List.set_cons_zero, List.set_cons_succ]
              refine oneH (i := 11) (by kernel_rfl) rfl (by rfl) (fun K hK => ?_)
              go_simp
              refine (hasRoom_any _ _ _ room (putR ts rs)[k] x _ (HRm.out.ext (EW.out.trans (Ext.refl wx).drew)) (TB.out.ext (Ext.refl wx).drew) (NX.out.ext (EW.out.trans (Ext.refl wx).drew)) R3.out GB.out GX.out).mono ?_; rintro e w2 ⟨rfl, hE2⟩; have E2 := Lib.hid ((Ext.refl wx).drew.trans hE2); clear hE2
              try dsimp only
              refine hK.out _ _ (⟨E2.out.cell CB.out, (E2.out.block (lt_of_heap XB.out)).trans XB.out⟩) (fun hHeld => ?_)
              clear hK K
              try simp only [Act.put, List.setIfInBounds_toArray, List.set_cons_zero, List.set_cons_succ]
              rw [hf]
              refine takeH (i := 12) (d := some 55) (v := ?_) rfl rfl (by kernel_rfl) (by kernel_rfl) (by kernel_rfl) (fun _ _ _ h => h) (by rfl) ?_ (by assumption) ?_
              rotate_left
              · intro w hSw; (try dsimp only at hSw); (try go_simp); (try with_reducible rfl)
              try simp only [Act.put, List.setIfInBounds_toArray, List.set_cons_zero, List.set_cons_succ]
              refine takeH (i := 13) (d := some 56) (v := ?_) rfl rfl (by kernel_rfl) (by kernel_rfl) (by kernel_rfl) (fun _ _ _ h => h) (by rfl) ?_ (by assumption) ?_
              rotate_left
              · intro w hSw; (try dsimp only at hSw); (try go_simp); (try with_reducible rfl)
              try simp only [Act.put, List.setIfInBounds_toArray, List.set_cons_zero, List.set_cons_succ]
              refine wpAnyH_done (by kernel_rfl) ?_ _
              go_upto_region 20 with fail
              have EV := Lib.hid (EX.out.trans E2.out)
              have EW2 := Lib.hid (EXT.out.trans EV.out)
              have ek : ((k + 1 : Nat) : Int) = (k : Int) + 1 := by omega
              have PT := Lib.hid (OwnTr.put (SK.out.ext EV.out) LS.out (k + 1))
              rw [ek] at PT
              have c20 := EV.out.cell CT.out
              have f20 := PT.out.2.2.2
              have XBb := Lib.hid ((E2.out.block (lt_of_heap XB.out)).trans XB.out)
              have XB3 := Lib.hid ((PT.out.2.1.2 _ _ _ _ XBb.out (by decide)).trans XBb.out)
              have NB3 := Lib.hid ((NB.out.ext E2.out).kt PT.out.2.1 (by decide) (by decide))
              have SK3 := Lib.hid PT.out.1
              have WK3 := Lib.hid ((WK.out.ext EV.out).kt PT.out.2.1 (by decide))
              have EB3 := Lib.hid (EW2.out.below PT.out.2.2.1)
              have CB3 := Lib.hid (show (w2.setCell ⟨sg, rs.length, none⟩ (.int .i64 ((k : Int) + 1))).cell? ⟨bb, k, none⟩ = some (.slice oa bl oc) by
                obtain ⟨cs, fz, hrow⟩ := (NB.out.ext E2.out).rowOf
                rw [World.cell?_of_block (a := ⟨bb, k, none⟩) (PT.out.2.1.2 _ _ _ _ hrow (by decide))]
                exact E2.out.cell CB.out)
              have HO3 := Lib.hid ((HO.out.ext E2.out).kt PT.out.2.1 (by decide))
              have OB3 := Lib.hid (show ∀ g, (Value.slice oa bl oc).ownBlock = some g → g ≠ X from fun g hg => by have := OB.out g hg; omega)
              have K3 := Lib.hid HG.out
              have BL3 := Lib.hid (show (putR ts rs)[k].length ≤ 7 from by have := BL.out; omega)
              go_upto_region 21 with fail
              clear PT c20 f20 XBb CT FT
              generalize w2.setCell ⟨sg, rs.length, none⟩ (.int .i64 ((k : Int) + 1)) = w3 at *
              go_upto_region 23 with fail
              refine regionZ (S := fun w' => w'.cell? ⟨bb, k, none⟩ = some (.slice oa bl oc) ∧ w'.heap[X]? = some (Obj.cells #[.int .i64 x.id, .slice na x.need.length nc] 31)) 10 (by kernel_rfl) (⟨CB3.out, XB3.out⟩) (fun hHeld => ?_)
              refine pureZ (i := 0) (d := some 127) (v := ?_) rfl rfl (by decide) (by kernel_rfl) (by kernel_rfl) (by kernel_rfl) (fun _ _ _ h => h) (by rfl) ?_ (by assumption) ?_
              rotate_left
              · intro w; (try go_simp); (try with_reducible rfl)
              try simp only [Act.put]
              try simp only [List.setIfInBounds_toArray]
              try simp only [List.set_cons_succ]
              try simp only [List.set_cons_zero]
              refine pureZ (i := 1) (d := some 128) (v := ?_) rfl rfl (by decide) (by kernel_rfl) (by kernel_rfl) (by kernel_rfl) (fun _ _ _ h => h) (by rfl) ?_ (by assumption) ?_
              rotate_left
              · intro w; (try go_simp); (try with_reducible rfl)
              try simp only [Act.put]
              try simp only [List.setIfInBounds_toArray]
              try simp only [List.set_cons_succ]
              try simp only [List.set_cons_zero]
              refine pureZ (i := 2) (d := some 129) (v := ?_) rfl rfl (by decide) (by kernel_rfl) (by kernel_rfl) (by kernel_rfl) (fun _ _ _ h => h) (by rfl) ?_ (by assumption) ?_
              rotate_left
              · intro w; (try go_simp); (try with_reducible rfl)
              try simp only [Act.put]
              try simp only [List.setIfInBounds_toArray]
              try simp only [List.set_cons_succ]
              try simp only [List.set_cons_zero]
              refine pureZ (i := 3) (d := some 130) (v := ?_) rfl rfl (by decide) (by kernel_rfl) (by kernel_rfl) (by kernel_rfl) (fun _ _ _ h => h) (by rfl) ?_ (by assumption) ?_
              rotate_left
              · intro w; (try go_simp); (try with_reducible rfl)
              try simp only [Act.put]
              try simp only [List.setIfInBounds_toArray]
              try simp only [List.set_cons_succ]
              try simp only [List.set_cons_zero]
              refine pureZ (i := 4) (d := some 131) (v := ?_) rfl rfl (by decide) (by kernel_rfl) (by kernel_rfl) (by kernel_rfl) (fun _ _ _ h => h) (by rfl) ?_ (by assumption) ?_
              rotate_left
              · intro w; (try go_simp); (try with_reducible rfl)
              try simp only [Act.put]
              try simp only [List.setIfInBounds_toArray]
              try simp only [List.set_cons_succ]
              try simp only [List.set_cons_zero]
              refine readZ [] (i := 5) (d := some 132) (v := ?_) rfl rfl (by decide) (by kernel_rfl) (by kernel_rfl) (by kernel_rfl) (by kernel_rfl) (fun _ _ _ h => h) (by rfl) ?_ (by assumption) ?_
              rotate_left
              · intro w hSw; (try dsimp only at hSw); (try have l0 := hSw.1; go_simp); (try with_reducible rfl)
              try simp only [Act.put]
              try simp only [List.setIfInBounds_toArray]
              try simp only [List.set_cons_succ]
              try simp only [List.set_cons_zero]
              refine readZ [] (i := 6) (d := some 133) (v := ?_) rfl rfl (by decide) (by kernel_rfl) (by kernel_rfl) (by kernel_rfl) (by kernel_rfl) (fun _ _ _ h => h) (by rfl) ?_ (by assumption) ?_
              rotate_left
              · intro w hSw; (try dsimp only at hSw); (try have l0 := cell_of_heap hSw.2 0; have l1 := cell_of_heap hSw.2 1; go_simp); (try with_reducible rfl)
              try simp only [Act.put]
              try simp only [List.setIfInBounds_toArray]
              try simp only [List.set_cons_succ]
              try simp only [List.set_cons_zero]
              refine oneZ (i := 7) (by kernel_rfl) rfl (by rfl) (fun K hK => ?_)
              go_simp
              try dsimp only
              refine hK.out _ _ (⟨((Ext.refl w3).drew.alloc _).cell CB3.out, heap_skip _ _ XB3.out⟩) (fun hHeld => ?_)
              clear hK K
              try simp only [Act.put]
              try simp only [List.setIfInBounds_toArray]
              try simp only [List.set_cons_succ]
              try simp only [List.set_cons_zero]
              refine oneZ (i := 8) (by kernel_rfl) rfl (by rfl) (fun K hK => ?_)
              refine wp_app2_w _ _ rfl wb wb.heap.size _ (putR ts rs)[k] (by rfl) (HO3.out.ext ((Ext.refl w3).drew.alloc (Obj.cells #[.int .i64 x.id, .slice na x.need.length nc] 31))) (EB3.out.drew.alloc _).le _ _ x _ (by rfl) (Row.lit w3.drew #[.int .i64 x.id, .slice na x.need.length nc] 31) NX.out (by have := BL3.out; unfold lim; omega) ?_
              intro v5 w5 hown hg hb5
              obtain ⟨sa5, sn5, sc5, hv5⟩ : ∃ a n c, v5 = .slice a n c := let ⟨a, c, h⟩ := hown.form; ⟨a, _, c, h⟩
              subst hv5
              have P5 := Lib.hid (NestW.push (NB3.out.ext ((Ext.refl w3).drew.alloc (Obj.cells #[.int .i64 x.id, .slice na x.need.length nc] 31))) K3.out (((Ext.refl w3).drew.alloc (Obj.cells #[.int .i64 x.id, .slice na x.need.length nc] 31)).cell CB3.out) (EB3.out.drew.alloc _).le hown hg hb5)
              have X5 := Lib.hid ((hg.block X (lt_of_heap (heap_skip w3.drew (Obj.cells #[.int .i64 x.id, .slice na x.need.length nc] 31) XB3.out)) (fun e => OB3.out _ e.symm rfl)).trans (heap_skip w3.drew (Obj.cells #[.int .i64 x.id, .slice na x.need.length nc] 31) XB3.out))
              clear hown hg hb5
              try dsimp only
              refine hK.out _ _ (⟨P5.out.2.2.2.2.2.1, X5.out⟩) (fun hHeld => ?_)
              clear hK K
              try simp only [Act.put]
              try simp only [List.setIfInBounds_toArray]
              try simp only [List.set_cons_succ]
              try simp only [List.set_cons_zero]
              refine pureZ (i := 9) (d := some 136) (v := ?_) rfl rfl (by decide) (by kernel_rfl) (by kernel_rfl) (by kernel_rfl) (fun _ _ _ h => h) (by rfl) ?_ (by assumption) ?_
              rotate_left
              · intro w; (try go_simp); (try with_reducible rfl)
              try simp only [Act.put]
              try simp only [List.setIfInBounds_toArray]
              try simp only [List.set_cons_succ]
              try simp only [List.set_cons_zero]
              have f1 := P5.out.2.2.2.2.2.2
              have l1 := P5.out.2.2.2.2.2.1
              refine lastZ (by kernel_rfl) rfl (by rfl) (fun K hK => ?_)
              go_simp
              try dsimp only
              refine hK.out _ _ ?_
              clear hK K
              try simp only [Act.put]
              try simp only [List.setIfInBounds_toArray]
              try simp only [List.set_cons_succ]
              try simp only [List.set_cons_zero]
              refine doneZ (by kernel_rfl) ?_
              have N6 := Lib.hid P5.out.1
              have E6 := Lib.hid (((EB3.out.drew.alloc (Obj.cells #[.int .i64 x.id, .slice na x.need.length nc] 31)).below P5.out.2.2.2.2.1).below P5.out.2.2.2.1)
              have S6 := Lib.hid (((SK3.out.ext ((Ext.refl w3).drew.alloc (Obj.cells #[.int .i64 x.id, .slice na x.need.length nc] 31))).kt P5.out.2.1 (by decide)).kt P5.out.2.2.1 (by decide))
              have W6 := Lib.hid (((WK3.out.ext ((Ext.refl w3).drew.alloc (Obj.cells #[.int .i64 x.id, .slice na x.need.length nc] 31))).kt P5.out.2.1 (by decide)).kt P5.out.2.2.1 (by decide))
              clear P5 X5 f1 l1 hHeld NB3 SK3 WK3 XB3 HO3 CB3 OB3 EB3 BL3
              generalize w5.setCell ⟨bb, k, none⟩ (.slice sa5 sn5 sc5) = w6 at *
              have I6 := Lib.hid (Ints.lit w6 #[.int .i64 (k : Int)] [(k : Int)] 1 1 rfl rfl (by simp [lim]))
              have A6 := Lib.hid ((Ext.refl w6).alloc (.cells #[.int .i64 (k : Int)] 3))
              go_upto_region 25 with (at_builtin; refine app_ints rfl _ _ rfl wb.heap.size _ (rs.reverse.map fun (a : Nat) => (a : Int)) rfl (W6.out.ext A6.out) (E6.out.trans A6.out).le _ _ _ [(k : Int)] rfl I6.out (by have := LW.out; rw [this]; unfold lim; simp; omega) ?_; intro v7 w7 hown hkt hbl; obtain ⟨wa7, wc7, hv7⟩ : ∃ a c, v7 = .slice a (rs.length + 1) c := (by obtain ⟨a, c, h⟩ := hown.shape; exact ⟨a, c, by rw [h]; simp⟩); subst hv7; have W7 := Lib.hid hown; have N7 := Lib.hid ((N6.out.ext A6.out).kt hkt (by decide) (by decide)); have S7 := Lib.hid ((S6.out.ext A6.out).kt hkt (by decide)); have E7 := Lib.hid ((E6.out.trans A6.out).below hbl); clear hown hkt hbl)
              have A7 := Lib.hid ((Ext.refl w7).alloc (.cells #[.int .i64 0] 40))
              have R7 := Lib.hid (Row.lit w7 #[.int .i64 0] 40)
              clear N6 S6 W6 E6 I6 A6
              go_wp2_with (at_builtin; refine app_trial rfl _ _ rfl wb.heap.size _ ((rs.map (· + 1)).reverse ++ [k + 1]) rfl (S7.out.ext A7.out) (E7.out.trans A7.out).le _ _ 0 rfl R7.out (by have := LS.out; rw [List.length_append, this]; unfold lim; simp; omega) ?_; intro v9 w9 hown hkt hbl; have S9 := Lib.hid hown; have N9 := Lib.hid ((N7.out.ext A7.out).kt hkt (by decide) (by decide)); have W9 := Lib.hid ((W7.out.ext A7.out).kt hkt (by decide)); have E9 := Lib.hid ((E7.out.trans A7.out).below hbl); clear hown hkt hbl)
              have L9 := R.out.push h7 hlt HX.out hnk NOW.out (.inl ⟨HG.out, by rw [getD_at HG.out]; exact hf⟩) E9.out (show NestW wb w9 wb.heap.size wb.heap.size _ (placeL (putR ts rs) k x) from by rw [place_some HG.out]; exact N9.out) S9.out W9.out
              go_roundw
              case rel => exact ⟨_, L9.1⟩
              case measure => rw [M.out]; exact LMeas_lt (g := (k :: rs, 0)) L9.1 L9.2
          · have k1 : ¬ ((k : Int) < ((putR ts rs).length : Int)) := by omega
            go_wp2_with fail
            refine wp_region_held_drew (S := fun _ => True) (by kernel_rfl) (trivial) (fun hHeld => ?_)
            refine takeH (i := 0) (d := some 43) (v := ?_) rfl rfl (by kernel_rfl) (by kernel_rfl) (by kernel_rfl) (fun _ _ _ h => h) (by rfl) ?_ (by assumption) ?_
            rotate_left
            · intro w hSw; (try dsimp only at hSw); (try go_simp); (try with_reducible rfl)
            try simp only [Act.put, List.setIfInBounds_toArray, List.set_cons_zero, List.set_cons_succ]
            refine takeH (i := 1) (d := some 44) (v := ?_) rfl rfl (by kernel_rfl) (by kernel_rfl) (by kernel_rfl) (fun _ _ _ h => h) (by rfl) ?_ (by assumption) ?_
            rotate_left
            · intro w hSw; (try dsimp only at hSw); (try go_simp); (try with_reducible rfl)
            try simp only [Act.put, List.setIfInBounds_toArray, List.set_cons_zero, List.set_cons_succ]
            refine takeH (i := 2) (d := some 45) (v := ?_) rfl rfl (by kernel_rfl) (by kernel_rfl) (by kernel_rfl) (fun _ _ _ h => h) (by rfl) ?_ (by assumption) ?_
            rotate_left
            · intro w hSw; (try dsimp only at hSw); (try go_simp); (try with_reducible rfl)
            try simp only [Act.put, List.setIfInBounds_toArray, List.set_cons_zero, List.set_cons_succ]
            refine takeH (i := 3) (d := some 46) (v := ?_) rfl rfl (by kernel_rfl) (by kernel_rfl) (by kernel_rfl) (fun _ _ _ h => h) (by rfl) ?_ (by assumption) ?_
            rotate_left
            · intro w hSw; (try dsimp only at hSw); (try go_simp); (try with_reducible rfl)
            try simp only [Act.put, List.setIfInBounds_toArray, List.set_cons_zero, List.set_cons_succ]
            refine takeH (i := 4) (d := some 47) (v := ?_) rfl rfl (by kernel_rfl) (by kernel_rfl) (by kernel_rfl) (fun _ _ _ h => h) (by rfl) ?_ (by assumption) ?_
            rotate_left
            · intro w hSw; (try dsimp only at hSw); (try go_simp); (try with_reducible rfl)
            try simp only [Act.put, List.setIfInBounds_toArray, List.set_cons_zero, List.set_cons_succ]
            refine skipH (i := 5) (d := some 48) rfl rfl (by kernel_rfl) (by kernel_rfl) (by kernel_rfl) (fun _ _ _ h => h) (by rfl) (by assumption) ?_
            try simp only [Act.put, List.setIfInBounds_toArray, List.set_cons_zero, List.set_cons_succ]
            refine skipH (i := 6) (d := some 49) rfl rfl (by kernel_rfl) (by kernel_rfl) (by kernel_rfl) (fun _ _ _ h => h) (by rfl) (by assumption) ?_
            try simp only [Act.put, List.setIfInBounds_toArray, List.set_cons_zero, List.set_cons_succ]
            refine skipH (i := 7) (d := some 50) rfl rfl (by kernel_rfl) (by kernel_rfl) (by kernel_rfl) (fun _ _ _ h => h) (by rfl) (by assumption) ?_
            try simp only [Act.put, List.setIfInBounds_toArray, List.set_cons_zero, List.set_cons_succ]
            refine skipH (i := 8) (d := some 51) rfl rfl (by kernel_rfl) (by kernel_rfl) (by kernel_rfl) (fun _ _ _ h => h) (by rfl) (by assumption) ?_
            try simp only [Act.put, List.setIfInBounds_toArray, List.set_cons_zero, List.set_cons_succ]
            refine skipH (i := 9) (d := some 52) rfl rfl (by kernel_rfl) (by kernel_rfl) (by kernel_rfl) (fun _ _ _ h => h) (by rfl) (by assumption) ?_
            try simp only [Act.put, List.setIfInBounds_toArray, List.set_cons_zero, List.set_cons_succ]
            refine skipH (i := 10) (d := some 53) rfl rfl (by kernel_rfl) (by kernel_rfl) (by kernel_rfl) (fun _ _ _ h => h) (by rfl) (by assumption) ?_
            try simp only [Act.put, List.setIfInBounds_toArray, List.set_cons_zero, List.set_cons_succ]
            refine skipH (i := 11) (d := some 54) rfl rfl (by kernel_rfl) (by kernel_rfl) (by kernel_rfl) (fun _ _ _ h => h) (by rfl) (by assumption) ?_
            try simp only [Act.put, List.setIfInBounds_toArray, List.set_cons_zero, List.set_cons_succ]
            refine skipH (i := 12) (d := some 55) rfl rfl (by kernel_rfl) (by kernel_rfl) (by kernel_rfl) (fun _ _ _ h => h) (by rfl) (by assumption) ?_
            try simp only [Act.put, List.setIfInBounds_toArray, List.set_cons_zero, List.set_cons_succ]
            refine takeH (i := 13) (d := some 56) (v := ?_) rfl rfl (by kernel_rfl) (by kernel_rfl) (by kernel_rfl) (fun _ _ _ h => h) (by rfl) ?_ (by assumption) ?_
            rotate_left
            · intro w hSw; (try dsimp only at hSw); (try go_simp); (try with_reducible rfl)
            try simp only [Act.put, List.setIfInBounds_toArray, List.set_cons_zero, List.set_cons_succ]
            refine wpAnyH_done (by kernel_rfl) ?_ _
            have E2 := Lib.hid ((Ext.refl wx).drew)
            generalize wx.drew = w2 at *
            have hk0 : k = (putR ts rs).length + 1 ∨ k = (putR ts rs).length := by omega
            clear k1
            rcases hk0 with hk0 | hk0
            · have NN := Lib.hid (show (putR ts rs).length < k ∨ (k = (putR ts rs).length ∧ ¬ (putR ts rs).length < leastN room ts) from .inl (by omega))
              have k2 : ((putR ts rs).length : Int) < (k : Int) := by omega
              clear hk0
              go_upto_region 14 with fail
              have EV := Lib.hid (EX.out.trans E2.out)
              have EW2 := Lib.hid (EXT.out.trans EV.out)
              have NB2 := Lib.hid (NB.out.ext E2.out)
              obtain ⟨a, rs', hrs⟩ : ∃ a rs', rs = a :: rs' := by
                have h1 := NOW.out
                have h2 := NN.out
                cases hrs : rs with
                | nil =>
                  exfalso
                  rw [hrs] at h1 h2
                  rw [now_none (show 0 < ts.length by omega) h2] at h1
                  cases h1
                | cons a r => exact ⟨a, r, rfl⟩
              obtain ⟨p, hp⟩ : ∃ p, rs'.length = p := ⟨_, rfl⟩
              have hl : rs.length = p + 1 := by rw [hrs, List.length_cons, hp]
              have FORM : ∃ (ha : a < (putR ts rs).length) (b : List T) (y : T), (putR ts rs)[a] = b ++ [y] ∧ ((b ≠ [] ∧ (putR ts rs).set a b = putR ts rs') ∨ (b = [] ∧ ((putR ts rs).set a b).take a = putR ts rs')) := by
                have OK' : PlacesOk ts (a :: rs') := by rw [← hrs]; exact R.out.ok
                rw [hrs]
                exact pop_form OK' (by omega)
              obtain ⟨ha, b, y, hy, hcase⟩ := FORM
              have WK2 := WK.out.ext EV.out
              rw [show (rs.reverse.map fun (a : Nat) => (a : Int)) = (rs'.reverse.map fun (a : Nat) => (a : Int)) ++ [(a : Int)] by rw [hrs]; simp] at WK2
              obtain ⟨wg, hwa, -, hwc, cw⟩ := OwnInts.last (p := p) WK2 (by simp [hp])
              subst hwa
              have SK2 := SK.out.ext EV.out
              rw [show (rs.map (· + 1)).reverse ++ [n] = ((rs'.map (· + 1)).reverse ++ [a + 1]) ++ [n] by rw [hrs]; simp, hl] at SK2
              have S3 := Lib.hid (OwnTr.cut (p := p + 1) SK2 (by simp [hp]))
              have W3 := Lib.hid (OwnInts.cut (p := p) WK2 (by simp [hp]))
              obtain ⟨bb, nd, hba, -, hbc, hBb, cb, hot, fb⟩ := NB2.out.at ha
              subst hba
              have R' := Lib.hid (show LRel wb room ts (leastN room ts) (a :: rs', n) _ _ _ wo by rw [← hrs]; exact R.out)
              have NOW' := Lib.hid (show nowL room (leastN room ts) ts (a :: rs') k = some (leastW room ts) by rw [← hrs]; exact NOW.out)
              have NN' := Lib.hid (show (putR ts (a :: rs')).length < k ∨ (k = (putR ts (a :: rs')).length ∧ ¬ (putR ts (a :: rs')).length < leastN room ts) by rw [← hrs]; exact NN.out)
              have hq6 : b.length ≤ 6 := by
                have h := (POK.out.1 _ (List.getElem_mem ha)).2.1
                rw [hy, List.length_append, List.length_singleton] at h
                omega
              rw [hy] at hot
              obtain ⟨q, hq⟩ : ∃ q, b.length = q := ⟨_, rfl⟩
              obtain ⟨oa, oc, hnd⟩ := hot.form
              rw [show (b ++ [y]).length = q + 1 by simp [hq]] at hnd
              subst hnd
              obtain ⟨tb, hoa, -, hoc, hcut⟩ := hot.cut
              subst hoa
              rw [hq] at hcut hoc
              have CB := Lib.hid cb
              have FB := Lib.hid fb
              have P := Lib.hid (NestW.push NB2.out ha cb EW2.out.le hcut (grown_refl w2 _) (.inl rfl))
              have HRS := Lib.hid hrs
              have HL := Lib.hid hl
              have HQ := Lib.hid hq
              have HP := Lib.hid hp
              have HA := Lib.hid ha
              have HCASE := Lib.hid hcase
              have hp7 : p ≤ 6 := by omega
              have hsc' : p + 1 + 1 ≤ sc := by omega
              rw [hl]
              have s0 : (0 : Int) ≤ (p : Int) + 1 := by omega
              have s1 : (p : Int) + 1 ≤ (sc : Int) := by omega
              have s2 : ¬ sc = 0 := by omega
              have t0 : (0 : Int) ≤ (p : Int) := by omega
              have t1 : (p : Int) ≤ (wc : Int) := by omega
              have t2 : ¬ wc = 0 := by omega
              have t3 : (p : Int) < (p : Int) + 1 := by omega
              have a0 : (0 : Int) ≤ (a : Int) := by omega
              have a1 : (a : Int) < ((putR ts rs).length : Int) := by omega
              have q0 : (0 : Int) ≤ (q : Int) := by omega
              have q6 : q ≤ 6 := by omega
              have hwq : IntKind.i64.wrap (q : Int) = (q : Int) := by simp [IntKind.wrap, IntKind.bits, IntKind.signed]; omega
              have q1 : (q : Int) ≤ (oc : Int) := by omega
              have q2 : ¬ oc = 0 := by omega
              have r1 : (a : Int) ≤ (bc : Int) := by omega
              have r2 : ¬ bc = 0 := by omega
              clear hq6 hrs hl hq hp ha hcase hy hot hcut cb fb hBb hbc hwc hsc' hoc WK2 SK2
              go_upto_region 17 with fail
              refine regionZ (S := fun w' => w'.cell? ⟨bb, a, none⟩ = some (.slice (some ⟨tb, 0, none⟩) (q + 1) oc)) 14 (by kernel_rfl) (CB.out) (fun hHeld => ?_)
              refine pureZ (i := 0) (d := some 91) (v := ?_) rfl rfl (by decide) (by kernel_rfl) (by kernel_rfl) (by kernel_rfl) (fun _ _ _ h => h) (by rfl) ?_ (by assumption) ?_
              rotate_left
              · intro w; (try go_simp); (try with_reducible rfl)
              try simp only [Act.put]
              try simp only [List.setIfInBounds_toArray]
              try simp only [List.set_cons_succ]
              try simp only [List.set_cons_zero]
              refine pureZ (i := 1) (d := some 92) (v := ?_) rfl rfl (by decide) (by kernel_rfl) (by kernel_rfl) (by kernel_rfl) (fun _ _ _ h => h) (by rfl) ?_ (by assumption) ?_
              rotate_left
              · intro w; (try go_simp); (try with_reducible rfl)
              try simp only [Act.put]
              try simp only [List.setIfInBounds_toArray]
              try simp only [List.set_cons_succ]
              try simp only [List.set_cons_zero]
              refine pureZ (i := 2) (d := some 93) (v := ?_) rfl rfl (by decide) (by kernel_rfl) (by kernel_rfl) (by kernel_rfl) (fun _ _ _ h => h) (by rfl) ?_ (by assumption) ?_
              rotate_left
              · intro w; (try go_simp); (try with_reducible rfl)
              try simp only [Act.put]
              try simp only [List.setIfInBounds_toArray]
              try simp only [List.set_cons_succ]
              try simp only [List.set_cons_zero]
              refine pureZ (i := 3) (d := some 94) (v := ?_) rfl rfl (by decide) (by kernel_rfl) (by kernel_rfl) (by kernel_rfl) (fun _ _ _ h => h) (by rfl) ?_ (by assumption) ?_
              rotate_left
              · intro w; (try go_simp); (try with_reducible rfl)
              try simp only [Act.put]
              try simp only [List.setIfInBounds_toArray]
              try simp only [List.set_cons_succ]
              try simp only [List.set_cons_zero]
              refine pureZ (i := 4) (d := some 95) (v := ?_) rfl rfl (by decide) (by kernel_rfl) (by kernel_rfl) (by kernel_rfl) (fun _ _ _ h => h) (by rfl) ?_ (by assumption) ?_
              rotate_left
              · intro w; (try go_simp); (try with_reducible rfl)
              try simp only [Act.put]
              try simp only [List.setIfInBounds_toArray]
              try simp only [List.set_cons_succ]
              try simp only [List.set_cons_zero]
              refine readZ [] (i := 5) (d := some 96) (v := ?_) rfl rfl (by decide) (by kernel_rfl) (by kernel_rfl) (by kernel_rfl) (by kernel_rfl) (fun _ _ _ h => h) (by rfl) ?_ (by assumption) ?_
              rotate_left
              · intro w hSw; (try dsimp only at hSw); (try have l0 := hSw; go_simp); (try with_reducible rfl)
              try simp only [Act.put]
              try simp only [List.setIfInBounds_toArray]
              try simp only [List.set_cons_succ]
              try simp only [List.set_cons_zero]
              refine pureZ (i := 6) (d := some 97) (v := ?_) rfl rfl (by decide) (by kernel_rfl) (by kernel_rfl) (by kernel_rfl) (fun _ _ _ h => h) (by rfl) ?_ (by assumption) ?_
              rotate_left
              · intro w; (try go_simp); (try with_reducible rfl)
              try simp only [Act.put]
              try simp only [List.setIfInBounds_toArray]
              try simp only [List.set_cons_succ]
              try simp only [List.set_cons_zero]
              refine pureZ (i := 7) (d := some 98) (v := ?_) rfl rfl (by decide) (by kernel_rfl) (by kernel_rfl) (by kernel_rfl) (fun _ _ _ h => h) (by rfl) ?_ (by assumption) ?_
              rotate_left
              · intro w; (try go_simp); (try with_reducible rfl)
              try simp only [Act.put]
              try simp only [List.setIfInBounds_toArray]
              try simp only [List.set_cons_succ]
              try simp only [List.set_cons_zero]
              refine pureZ (i := 8) (d := some 99) (v := ?_) rfl rfl (by decide) (by kernel_rfl) (by kernel_rfl) (by kernel_rfl) (fun _ _ _ h => h) (by rfl) ?_ (by assumption) ?_
              rotate_left
              · intro w; (try go_simp); (try with_reducible rfl)
              try simp only [Act.put]
              try simp only [List.setIfInBounds_toArray]
              try simp only [List.set_cons_succ]
              try simp only [List.set_cons_zero]
              refine readZ [] (i := 9) (d := some 100) (v := ?_) rfl rfl (by decide) (by kernel_rfl) (by kernel_rfl) (by kernel_rfl) (by kernel_rfl) (fun _ _ _ h => h) (by rfl) ?_ (by assumption) ?_
              rotate_left
              · intro w hSw; (try dsimp only at hSw); (try have l0 := hSw; go_simp); (try with_reducible rfl)
              try simp only [Act.put]
              try simp only [List.setIfInBounds_toArray]
              try simp only [List.set_cons_succ]
              try simp only [List.set_cons_zero]
              refine pureZ (i := 10) (d := some 101) (v := ?_) rfl rfl (by decide) (by kernel_rfl) (by kernel_rfl) (by kernel_rfl) (fun _ _ _ h => h) (by rfl) ?_ (by assumption) ?_
              rotate_left
              · intro w; (try go_simp); (try with_reducible rfl)
              try simp only [Act.put]
              try simp only [List.setIfInBounds_toArray]
              try simp only [List.set_cons_succ]
              try simp only [List.set_cons_zero]
              refine pureZ (i := 11) (d := some 102) (v := ?_) rfl rfl (by decide) (by kernel_rfl) (by kernel_rfl) (by kernel_rfl) (fun _ _ _ h => h) (by rfl) ?_ (by assumption) ?_
              rotate_left
              · intro w; (try go_simp); (try with_reducible rfl)
              try simp only [Act.put]
              try simp only [List.setIfInBounds_toArray]
              try simp only [List.set_cons_succ]
              try simp only [List.set_cons_zero]
              refine pureZ (i := 12) (d := some 103) (v := ?_) rfl rfl (by decide) (by kernel_rfl) (by kernel_rfl) (by kernel_rfl) (fun _ _ _ h => h) (by rfl) ?_ (by assumption) ?_
              rotate_left
              · intro w; (try go_simp); (try with_reducible rfl)
              try simp only [Act.put]
              try simp only [List.setIfInBounds_toArray]
              try simp only [List.set_cons_succ]
              try simp only [List.set_cons_zero]
              refine pureZ (i := 13) (d := some 104) (v := ?_) rfl rfl (by decide) (by kernel_rfl) (by kernel_rfl) (by kernel_rfl) (fun _ _ _ h => h) (by rfl) ?_ (by assumption) ?_
              rotate_left
              · intro w; (try go_simp); (try with_reducible rfl)
              try simp only [Act.put]
              try simp only [List.setIfInBounds_toArray]
              try simp only [List.set_cons_succ]
              try simp only [List.set_cons_zero]
              have l1 := CB.out
              have f1 := FB.out
              refine lastZ (by kernel_rfl) rfl (by rfl) (fun K hK => ?_)
              go_simp
              try dsimp only
              refine hK.out _ _ ?_
              clear hK K
              try simp only [Act.put]
              try simp only [List.setIfInBounds_toArray]
              try simp only [List.set_cons_succ]
              try simp only [List.set_cons_zero]
              refine doneZ (by kernel_rfl) ?_
              have N3 := Lib.hid (P.out.1.ext (Ext.refl _).drew)
              have E3 := Lib.hid ((EW2.out.below P.out.2.2.2.1).drew)
              have S4 := Lib.hid ((S3.out.kt P.out.2.2.1 (by decide)).ext (Ext.refl _).drew)
              have W4 := Lib.hid ((W3.out.kt P.out.2.2.1 (by decide)).ext (Ext.refl _).drew)
              have c18 : (w2.setCell ⟨bb, a, none⟩ (.slice (some ⟨tb, 0, none⟩) q oc)).drew.cell? ⟨bb, a, none⟩ = some (.slice (some ⟨tb, 0, none⟩) q oc) := by simp [go_sem, CB.out]
              clear P CB FB hHeld l1 f1 S3 W3 hwq
              generalize (w2.setCell ⟨bb, a, none⟩ (.slice (some ⟨tb, 0, none⟩) q oc)).drew = w3 at *
              rcases HCASE.out with ⟨hne, hset⟩ | ⟨hnil, htake⟩
              · have hq0 : ((q : Int) == 0) = false := beq_eq_false_iff_ne.2 (by have := List.length_pos_iff.2 hne; have := HQ.out; omega)
                have L9 := LRel.pop R'.out h7 (by have := HL.out; have := HP.out; omega) NOW'.out NN'.out E3.out (hset ▸ N3.out) S4.out W4.out
                have HL9 := Lib.hid L9
                clear L9 hset hne
                go_wp2_with fail
                go_roundw
                case rel => exact ⟨_, HL9.out.1⟩
                case measure =>
                  rw [M.out]
                  refine LMeas_lt (g := (rs', a + 1)) HL9.out.1 ?_
                  show remL ((a + 1) :: rs'.map (· + 1)) < remL (n :: rs.map (· + 1))
                  rw [HRS.out]
                  exact HL9.out.2
              · have hq0 : q = 0 := by have := HQ.out; rw [hnil] at this; simpa using this.symm
                subst hq0
                have L9 := LRel.pop R'.out h7 (by have := HL.out; have := HP.out; omega) NOW'.out NN'.out E3.out (htake ▸ (N3.out.cut (k := a) (by have := HA.out; simp; omega))) S4.out W4.out
                have HL9 := Lib.hid L9
                clear L9 htake hnil
                go_wp2_with fail
                go_roundw
                case rel => exact ⟨_, HL9.out.1⟩
                case measure =>
                  rw [M.out]
                  refine LMeas_lt (g := (rs', a + 1)) HL9.out.1 ?_
                  show remL ((a + 1) :: rs'.map (· + 1)) < remL (n :: rs.map (· + 1))
                  rw [HRS.out]
                  exact HL9.out.2
            · have HK := Lib.hid hk0
              have k2 : ¬ (((putR ts rs).length : Int) < (k : Int)) := by omega
              have k3 : ((k : Int) == ((putR ts rs).length : Int)) = true := beq_iff_eq.2 (by omega)
              clear hk0
              by_cases hmost : (putR ts rs).length < leastN room ts
              · have HM := Lib.hid hmost
                have k5 : (((putR ts rs).length : Int) == (leastN room ts : Int)) = false := beq_eq_false_iff_ne.2 (by omega)
                clear hmost
                go_upto_region 20 with fail
                have EV := Lib.hid (EX.out.trans E2.out)
                have EW2 := Lib.hid (EXT.out.trans EV.out)
                have ek : ((k + 1 : Nat) : Int) = (k : Int) + 1 := by omega
                have PT := Lib.hid (OwnTr.put (SK.out.ext EV.out) LS.out (k + 1))
                rw [ek] at PT
                have c20 := EV.out.cell CT.out
                have f20 := PT.out.2.2.2
                have XBb := Lib.hid ((E2.out.block (lt_of_heap XB.out)).trans XB.out)
                have XBz := Lib.hid ((PT.out.2.1.2 _ _ _ _ XBb.out (by decide)).trans XBb.out)
                have NBz := Lib.hid ((NB.out.ext E2.out).kt PT.out.2.1 (by decide) (by decide))
                have SKz := Lib.hid PT.out.1
                have WKz := Lib.hid ((WK.out.ext EV.out).kt PT.out.2.1 (by decide))
                have EBz := Lib.hid (EW2.out.below PT.out.2.2.1)
                go_upto_region 21 with fail
                clear PT c20 f20 XBb CT FT
                generalize w2.setCell ⟨sg, rs.length, none⟩ (.int .i64 ((k : Int) + 1)) = wz at *
                have Az := Lib.hid (((Ext.refl wz).alloc (.cells #[] 31)).alloc (.cells #[.slice (some ⟨wz.heap.size, 0, none⟩) 0 0] 24))
                have Oz := Lib.hid ((OwnW.lit0 wb wz wz.heap.size (Nat.le_refl _)).ext ((Ext.refl _).alloc (.cells #[.slice (some ⟨wz.heap.size, 0, none⟩) 0 0] 24)))
                have Rz := Lib.hid (show Row ((wz.alloc (.cells #[] 31)).alloc (.cells #[.slice (some ⟨wz.heap.size, 0, none⟩) 0 0] 24)) 24 (some ⟨wz.heap.size + 1, 0, none⟩) [.slice (some ⟨wz.heap.size, 0, none⟩) 0 0] from by
                  have := Row.lit (wz.alloc (.cells #[] 31)) #[.slice (some ⟨wz.heap.size, 0, none⟩) 0 0] 24
                  simpa using this)
                go_upto_region 23 with (at_builtin; refine app_nestw rfl _ _ rfl wb wb.heap.size _ (putR ts rs) rfl NBz.out Az.out EBz.out.le EBz.out.le _ _ (.slice (some ⟨wz.heap.size, 0, none⟩) 0 0) [] rfl Rz.out Oz.out (by unfold lim; omega) ?_; intro v4 w3 hnest hcell hkt hbl; obtain ⟨bb, bc4, hv4, hc4⟩ := hcell; subst hv4; have NB3 := Lib.hid hnest; have CB3 := Lib.hid hc4; have XB3 := Lib.hid ((hkt.2 _ _ _ _ (heap_skip _ _ (heap_skip _ _ XBz.out)) (by decide)).trans (heap_skip _ _ (heap_skip _ _ XBz.out))); have SK3 := Lib.hid ((SKz.out.ext Az.out).kt hkt (by decide)); have WK3 := Lib.hid ((WKz.out.ext Az.out).kt hkt (by decide)); have EB3 := Lib.hid ((EBz.out.trans Az.out).below hbl); have HO3 := Lib.hid ((Oz.out.base EBz.out.le).kt hkt (by decide)); clear hnest hkt hbl hc4)
                have OB3 := Lib.hid (show ∀ g, (Value.slice (some ⟨wz.heap.size, 0, none⟩) 0 0).ownBlock = some g → g ≠ X from fun g hg => by simp [Value.ownBlock] at hg; have := lt_of_heap XBz.out; omega)
                rw [← HK.out] at CB3
                have K3 := Lib.hid (show k < (putR ts rs ++ [[]]).length by have := HK.out; simp; omega)
                have BL3 := Lib.hid (show ([] : List T).length ≤ 7 by simp)
                have k4 : (k : Int) < ((putR ts rs).length : Int) + 1 := by have := HK.out; omega
                clear NBz XBz SKz WKz Az Oz Rz
                refine regionZ (S := fun w' => w'.cell? ⟨bb, k, none⟩ = some (.slice (some ⟨wz.heap.size, 0, none⟩) 0 0) ∧ w'.heap[X]? = some (Obj.cells #[.int .i64 x.id, .slice na x.need.length nc] 31)) 10 (by kernel_rfl) (⟨CB3.out, XB3.out⟩) (fun hHeld => ?_)
                refine pureZ (i := 0) (d := some 127) (v := ?_) rfl rfl (by decide) (by kernel_rfl) (by kernel_rfl) (by kernel_rfl) (fun _ _ _ h => h) (by rfl) ?_ (by assumption) ?_
                rotate_left
                · intro w; (try go_simp); (try with_reducible rfl)
                try simp only [Act.put]
                try simp only [List.setIfInBounds_toArray]
                try simp only [List.set_cons_succ]
                try simp only [List.set_cons_zero]
                refine pureZ (i := 1) (d := some 128) (v := ?_) rfl rfl (by decide) (by kernel_rfl) (by kernel_rfl) (by kernel_rfl) (fun _ _ _ h => h) (by rfl) ?_ (by assumption) ?_
                rotate_left
                · intro w; (try go_simp); (try with_reducible rfl)
                try simp only [Act.put]
                try simp only [List.setIfInBounds_toArray]
                try simp only [List.set_cons_succ]
                try simp only [List.set_cons_zero]
                refine pureZ (i := 2) (d := some 129) (v := ?_) rfl rfl (by decide) (by kernel_rfl) (by kernel_rfl) (by kernel_rfl) (fun _ _ _ h => h) (by rfl) ?_ (by assumption) ?_
                rotate_left
                · intro w; (try go_simp); (try with_reducible rfl)
                try simp only [Act.put]
                try simp only [List.setIfInBounds_toArray]
                try simp only [List.set_cons_succ]
                try simp only [List.set_cons_zero]
                refine pureZ (i := 3) (d := some 130) (v := ?_) rfl rfl (by decide) (by kernel_rfl) (by kernel_rfl) (by kernel_rfl) (fun _ _ _ h => h) (by rfl) ?_ (by assumption) ?_
                rotate_left
                · intro w; (try go_simp); (try with_reducible rfl)
                try simp only [Act.put]
                try simp only [List.setIfInBounds_toArray]
                try simp only [List.set_cons_succ]
                try simp only [List.set_cons_zero]
                refine pureZ (i := 4) (d := some 131) (v := ?_) rfl rfl (by decide) (by kernel_rfl) (by kernel_rfl) (by kernel_rfl) (fun _ _ _ h => h) (by rfl) ?_ (by assumption) ?_
                rotate_left
                · intro w; (try go_simp); (try with_reducible rfl)
                try simp only [Act.put]
                try simp only [List.setIfInBounds_toArray]
                try simp only [List.set_cons_succ]
                try simp only [List.set_cons_zero]
                refine readZ [] (i := 5) (d := some 132) (v := ?_) rfl rfl (by decide) (by kernel_rfl) (by kernel_rfl) (by kernel_rfl) (by kernel_rfl) (fun _ _ _ h => h) (by rfl) ?_ (by assumption) ?_
                rotate_left
                · intro w hSw; (try dsimp only at hSw); (try have l0 := hSw.1; go_simp); (try with_reducible rfl)
                try simp only [Act.put]
                try simp only [List.setIfInBounds_toArray]
                try simp only [List.set_cons_succ]
                try simp only [List.set_cons_zero]
                refine readZ [] (i := 6) (d := some 133) (v := ?_) rfl rfl (by decide) (by kernel_rfl) (by kernel_rfl) (by kernel_rfl) (by kernel_rfl) (fun _ _ _ h => h) (by rfl) ?_ (by assumption) ?_
                rotate_left
                · intro w hSw; (try dsimp only at hSw); (try have l0 := cell_of_heap hSw.2 0; have l1 := cell_of_heap hSw.2 1; go_simp); (try with_reducible rfl)
                try simp only [Act.put]
                try simp only [List.setIfInBounds_toArray]
                try simp only [List.set_cons_succ]
                try simp only [List.set_cons_zero]
                refine oneZ (i := 7) (by kernel_rfl) rfl (by rfl) (fun K hK => ?_)
                go_simp
                try dsimp only
                refine hK.out _ _ (⟨((Ext.refl w3).drew.alloc _).cell CB3.out, heap_skip _ _ XB3.out⟩) (fun hHeld => ?_)
                clear hK K
                try simp only [Act.put]
                try simp only [List.setIfInBounds_toArray]
                try simp only [List.set_cons_succ]
                try simp only [List.set_cons_zero]
                refine oneZ (i := 8) (by kernel_rfl) rfl (by rfl) (fun K hK => ?_)
                refine wp_app2_w _ _ rfl wb wb.heap.size _ ([] : List T) (by rfl) (HO3.out.ext ((Ext.refl w3).drew.alloc (Obj.cells #[.int .i64 x.id, .slice na x.need.length nc] 31))) (EB3.out.drew.alloc _).le _ _ x _ (by rfl) (Row.lit w3.drew #[.int .i64 x.id, .slice na x.need.length nc] 31) NX.out (by have := BL3.out; unfold lim; omega) ?_
                intro v5 w5 hown hg hb5
                obtain ⟨sa5, sn5, sc5, hv5⟩ : ∃ a n c, v5 = .slice a n c := let ⟨a, c, h⟩ := hown.form; ⟨a, _, c, h⟩
                subst hv5
                have P5 := Lib.hid (NestW.push (NB3.out.ext ((Ext.refl w3).drew.alloc (Obj.cells #[.int .i64 x.id, .slice na x.need.length nc] 31))) K3.out (((Ext.refl w3).drew.alloc (Obj.cells #[.int .i64 x.id, .slice na x.need.length nc] 31)).cell CB3.out) (EB3.out.drew.alloc _).le hown hg hb5)
                have X5 := Lib.hid ((hg.block X (lt_of_heap (heap_skip w3.drew (Obj.cells #[.int .i64 x.id, .slice na x.need.length nc] 31) XB3.out)) (fun e => OB3.out _ e.symm rfl)).trans (heap_skip w3.drew (Obj.cells #[.int .i64 x.id, .slice na x.need.length nc] 31) XB3.out))
                clear hown hg hb5
                try dsimp only
                refine hK.out _ _ (⟨P5.out.2.2.2.2.2.1, X5.out⟩) (fun hHeld => ?_)
                clear hK K
                try simp only [Act.put]
                try simp only [List.setIfInBounds_toArray]
                try simp only [List.set_cons_succ]
                try simp only [List.set_cons_zero]
                refine pureZ (i := 9) (d := some 136) (v := ?_) rfl rfl (by decide) (by kernel_rfl) (by kernel_rfl) (by kernel_rfl) (fun _ _ _ h => h) (by rfl) ?_ (by assumption) ?_
                rotate_left
                · intro w; (try go_simp); (try with_reducible rfl)
                try simp only [Act.put]
                try simp only [List.setIfInBounds_toArray]
                try simp only [List.set_cons_succ]
                try simp only [List.set_cons_zero]
                have f1 := P5.out.2.2.2.2.2.2
                have l1 := P5.out.2.2.2.2.2.1
                refine lastZ (by kernel_rfl) rfl (by rfl) (fun K hK => ?_)
                go_simp
                try dsimp only
                refine hK.out _ _ ?_
                clear hK K
                try simp only [Act.put]
                try simp only [List.setIfInBounds_toArray]
                try simp only [List.set_cons_succ]
                try simp only [List.set_cons_zero]
                refine doneZ (by kernel_rfl) ?_
                have N6 := Lib.hid P5.out.1
                have E6 := Lib.hid (((EB3.out.drew.alloc (Obj.cells #[.int .i64 x.id, .slice na x.need.length nc] 31)).below P5.out.2.2.2.2.1).below P5.out.2.2.2.1)
                have S6 := Lib.hid (((SK3.out.ext ((Ext.refl w3).drew.alloc (Obj.cells #[.int .i64 x.id, .slice na x.need.length nc] 31))).kt P5.out.2.1 (by decide)).kt P5.out.2.2.1 (by decide))
                have W6 := Lib.hid (((WK3.out.ext ((Ext.refl w3).drew.alloc (Obj.cells #[.int .i64 x.id, .slice na x.need.length nc] 31))).kt P5.out.2.1 (by decide)).kt P5.out.2.2.1 (by decide))
                clear P5 X5 f1 l1 hHeld NB3 SK3 WK3 XB3 HO3 CB3 OB3 EB3 BL3
                generalize w5.setCell ⟨bb, k, none⟩ (.slice sa5 sn5 sc5) = w6 at *
                have I6 := Lib.hid (Ints.lit w6 #[.int .i64 (k : Int)] [(k : Int)] 1 1 rfl rfl (by simp [lim]))
                have A6 := Lib.hid ((Ext.refl w6).alloc (.cells #[.int .i64 (k : Int)] 3))
                go_upto_region 25 with (at_builtin; refine app_ints rfl _ _ rfl wb.heap.size _ (rs.reverse.map fun (a : Nat) => (a : Int)) rfl (W6.out.ext A6.out) (E6.out.trans A6.out).le _ _ _ [(k : Int)] rfl I6.out (by have := LW.out; rw [this]; unfold lim; simp; omega) ?_; intro v7 w7 hown hkt hbl; obtain ⟨wa7, wc7, hv7⟩ : ∃ a c, v7 = .slice a (rs.length + 1) c := (by obtain ⟨a, c, h⟩ := hown.shape; exact ⟨a, c, by rw [h]; simp⟩); subst hv7; have W7 := Lib.hid hown; have N7 := Lib.hid ((N6.out.ext A6.out).kt hkt (by decide) (by decide)); have S7 := Lib.hid ((S6.out.ext A6.out).kt hkt (by decide)); have E7 := Lib.hid ((E6.out.trans A6.out).below hbl); clear hown hkt hbl)
                have A7 := Lib.hid ((Ext.refl w7).alloc (.cells #[.int .i64 0] 40))
                have R7 := Lib.hid (Row.lit w7 #[.int .i64 0] 40)
                clear N6 S6 W6 E6 I6 A6
                go_wp2_with (at_builtin; refine app_trial rfl _ _ rfl wb.heap.size _ ((rs.map (· + 1)).reverse ++ [k + 1]) rfl (S7.out.ext A7.out) (E7.out.trans A7.out).le _ _ 0 rfl R7.out (by have := LS.out; rw [List.length_append, this]; unfold lim; simp; omega) ?_; intro v9 w9 hown hkt hbl; have S9 := Lib.hid hown; have N9 := Lib.hid ((N7.out.ext A7.out).kt hkt (by decide) (by decide)); have W9 := Lib.hid ((W7.out.ext A7.out).kt hkt (by decide)); have E9 := Lib.hid ((E7.out.trans A7.out).below hbl); clear hown hkt hbl)
                have e9 : (putR ts rs ++ [[]]).set k ([] ++ [x]) = placeL (putR ts rs) k x := by rw [HK.out, place_new]; simp
                have L9 := R.out.push h7 hlt HX.out hnk NOW.out (.inr ⟨HK.out, HM.out⟩) E9.out (show NestW wb w9 wb.heap.size wb.heap.size _ (placeL (putR ts rs) k x) from by rw [← e9]; exact N9.out) S9.out W9.out
                go_roundw
                case rel => exact ⟨_, L9.1⟩
                case measure => rw [M.out]; exact LMeas_lt (g := (k :: rs, 0)) L9.1 L9.2
              · have NN := Lib.hid (show (putR ts rs).length < k ∨ (k = (putR ts rs).length ∧ ¬ (putR ts rs).length < leastN room ts) from .inr ⟨HK.out, hmost⟩)
                have k5 : (((putR ts rs).length : Int) == (leastN room ts : Int)) = true := beq_iff_eq.2 (by have h1 : (putR ts rs).length ≤ leastN room ts := R.out.cap; omega)
                clear hmost
                go_upto_region 14 with fail
                have EV := Lib.hid (EX.out.trans E2.out)
                have EW2 := Lib.hid (EXT.out.trans EV.out)
                have NB2 := Lib.hid (NB.out.ext E2.out)
                obtain ⟨a, rs', hrs⟩ : ∃ a rs', rs = a :: rs' := by
                  have h1 := NOW.out
                  have h2 := NN.out
                  cases hrs : rs with
                  | nil =>
                    exfalso
                    rw [hrs] at h1 h2
                    rw [now_none (show 0 < ts.length by omega) h2] at h1
                    cases h1
                  | cons a r => exact ⟨a, r, rfl⟩
                obtain ⟨p, hp⟩ : ∃ p, rs'.length = p := ⟨_, rfl⟩
                have hl : rs.length = p + 1 := by rw [hrs, List.length_cons, hp]
                have FORM : ∃ (ha : a < (putR ts rs).length) (b : List T) (y : T), (putR ts rs)[a] = b ++ [y] ∧ ((b ≠ [] ∧ (putR ts rs).set a b = putR ts rs') ∨ (b = [] ∧ ((putR ts rs).set a b).take a = putR ts rs')) := by
                  have OK' : PlacesOk ts (a :: rs') := by rw [← hrs]; exact R.out.ok
                  rw [hrs]
                  exact pop_form OK' (by omega)
                obtain ⟨ha, b, y, hy, hcase⟩ := FORM
                have WK2 := WK.out.ext EV.out
                rw [show (rs.reverse.map fun (a : Nat) => (a : Int)) = (rs'.reverse.map fun (a : Nat) => (a : Int)) ++ [(a : Int)] by rw [hrs]; simp] at WK2
                obtain ⟨wg, hwa, -, hwc, cw⟩ := OwnInts.last (p := p) WK2 (by simp [hp])
                subst hwa
                have SK2 := SK.out.ext EV.out
                rw [show (rs.map (· + 1)).reverse ++ [n] = ((rs'.map (· + 1)).reverse ++ [a + 1]) ++ [n] by rw [hrs]; simp, hl] at SK2
                have S3 := Lib.hid (OwnTr.cut (p := p + 1) SK2 (by simp [hp]))
                have W3 := Lib.hid (OwnInts.cut (p := p) WK2 (by simp [hp]))
                obtain ⟨bb, nd, hba, -, hbc, hBb, cb, hot, fb⟩ := NB2.out.at ha
                subst hba
                have R' := Lib.hid (show LRel wb room ts (leastN room ts) (a :: rs', n) _ _ _ wo by rw [← hrs]; exact R.out)
                have NOW' := Lib.hid (show nowL room (leastN room ts) ts (a :: rs') k = some (leastW room ts) by rw [← hrs]; exact NOW.out)
                have NN' := Lib.hid (show (putR ts (a :: rs')).length < k ∨ (k = (putR ts (a :: rs')).length ∧ ¬ (putR ts (a :: rs')).length < leastN room ts) by rw [← hrs]; exact NN.out)
                have hq6 : b.length ≤ 6 := by
                  have h := (POK.out.1 _ (List.getElem_mem ha)).2.1
                  rw [hy, List.length_append, List.length_singleton] at h
                  omega
                rw [hy] at hot
                obtain ⟨q, hq⟩ : ∃ q, b.length = q := ⟨_, rfl⟩
                obtain ⟨oa, oc, hnd⟩ := hot.form
                rw [show (b ++ [y]).length = q + 1 by simp [hq]] at hnd
                subst hnd
                obtain ⟨tb, hoa, -, hoc, hcut⟩ := hot.cut
                subst hoa
                rw [hq] at hcut hoc
                have CB := Lib.hid cb
                have FB := Lib.hid fb
                have P := Lib.hid (NestW.push NB2.out ha cb EW2.out.le hcut (grown_refl w2 _) (.inl rfl))
                have HRS := Lib.hid hrs
                have HL := Lib.hid hl
                have HQ := Lib.hid hq
                have HP := Lib.hid hp
                have HA := Lib.hid ha
                have HCASE := Lib.hid hcase
                have hp7 : p ≤ 6 := by omega
                have hsc' : p + 1 + 1 ≤ sc := by omega
                rw [hl]
                have s0 : (0 : Int) ≤ (p : Int) + 1 := by omega
                have s1 : (p : Int) + 1 ≤ (sc : Int) := by omega
                have s2 : ¬ sc = 0 := by omega
                have t0 : (0 : Int) ≤ (p : Int) := by omega
                have t1 : (p : Int) ≤ (wc : Int) := by omega
                have t2 : ¬ wc = 0 := by omega
                have t3 : (p : Int) < (p : Int) + 1 := by omega
                have a0 : (0 : Int) ≤ (a : Int) := by omega
                have a1 : (a : Int) < ((putR ts rs).length : Int) := by omega
                have q0 : (0 : Int) ≤ (q : Int) := by omega
                have q6 : q ≤ 6 := by omega
                have hwq : IntKind.i64.wrap (q : Int) = (q : Int) := by simp [IntKind.wrap, IntKind.bits, IntKind.signed]; omega
                have q1 : (q : Int) ≤ (oc : Int) := by omega
                have q2 : ¬ oc = 0 := by omega
                have r1 : (a : Int) ≤ (bc : Int) := by omega
                have r2 : ¬ bc = 0 := by omega
                clear hq6 hrs hl hq hp ha hcase hy hot hcut cb fb hBb hbc hwc hsc' hoc WK2 SK2
                go_upto_region 17 with fail
                refine regionZ (S := fun w' => w'.cell? ⟨bb, a, none⟩ = some (.slice (some ⟨tb, 0, none⟩) (q + 1) oc)) 14 (by kernel_rfl) (CB.out) (fun hHeld => ?_)
                refine pureZ (i := 0) (d := some 91) (v := ?_) rfl rfl (by decide) (by kernel_rfl) (by kernel_rfl) (by kernel_rfl) (fun _ _ _ h => h) (by rfl) ?_ (by assumption) ?_
                rotate_left
                · intro w; (try go_simp); (try with_reducible rfl)
                try simp only [Act.put]
                try simp only [List.setIfInBounds_toArray]
                try simp only [List.set_cons_succ]
                try simp only [List.set_cons_zero]
                refine pureZ (i := 1) (d := some 92) (v := ?_) rfl rfl (by decide) (by kernel_rfl) (by kernel_rfl) (by kernel_rfl) (fun _ _ _ h => h) (by rfl) ?_ (by assumption) ?_
                rotate_left
                · intro w; (try go_simp); (try with_reducible rfl)
                try simp only [Act.put]
                try simp only [List.setIfInBounds_toArray]
                try simp only [List.set_cons_succ]
                try simp only [List.set_cons_zero]
                refine pureZ (i := 2) (d := some 93) (v := ?_) rfl rfl (by decide) (by kernel_rfl) (by kernel_rfl) (by kernel_rfl) (fun _ _ _ h => h) (by rfl) ?_ (by assumption) ?_
                rotate_left
                · intro w; (try go_simp); (try with_reducible rfl)
                try simp only [Act.put]
                try simp only [List.setIfInBounds_toArray]
                try simp only [List.set_cons_succ]
                try simp only [List.set_cons_zero]
                refine pureZ (i := 3) (d := some 94) (v := ?_) rfl rfl (by decide) (by kernel_rfl) (by kernel_rfl) (by kernel_rfl) (fun _ _ _ h => h) (by rfl) ?_ (by assumption) ?_
                rotate_left
                · intro w; (try go_simp); (try with_reducible rfl)
                try simp only [Act.put]
                try simp only [List.setIfInBounds_toArray]
                try simp only [List.set_cons_succ]
                try simp only [List.set_cons_zero]
                refine pureZ (i := 4) (d := some 95) (v := ?_) rfl rfl (by decide) (by kernel_rfl) (by kernel_rfl) (by kernel_rfl) (fun _ _ _ h => h) (by rfl) ?_ (by assumption) ?_
                rotate_left
                · intro w; (try go_simp); (try with_reducible rfl)
                try simp only [Act.put]
                try simp only [List.setIfInBounds_toArray]
                try simp only [List.set_cons_succ]
                try simp only [List.set_cons_zero]
                refine readZ [] (i := 5) (d := some 96) (v := ?_) rfl rfl (by decide) (by kernel_rfl) (by kernel_rfl) (by kernel_rfl) (by kernel_rfl) (fun _ _ _ h => h) (by rfl) ?_ (by assumption) ?_
                rotate_left
                · intro w hSw; (try dsimp only at hSw); (try have l0 := hSw; go_simp); (try with_reducible rfl)
                try simp only [Act.put]
                try simp only [List.setIfInBounds_toArray]
                try simp only [List.set_cons_succ]
                try simp only [List.set_cons_zero]
                refine pureZ (i := 6) (d := some 97) (v := ?_) rfl rfl (by decide) (by kernel_rfl) (by kernel_rfl) (by kernel_rfl) (fun _ _ _ h => h) (by rfl) ?_ (by assumption) ?_
                rotate_left
                · intro w; (try go_simp); (try with_reducible rfl)
                try simp only [Act.put]
                try simp only [List.setIfInBounds_toArray]
                try simp only [List.set_cons_succ]
                try simp only [List.set_cons_zero]
                refine pureZ (i := 7) (d := some 98) (v := ?_) rfl rfl (by decide) (by kernel_rfl) (by kernel_rfl) (by kernel_rfl) (fun _ _ _ h => h) (by rfl) ?_ (by assumption) ?_
                rotate_left
                · intro w; (try go_simp); (try with_reducible rfl)
                try simp only [Act.put]
                try simp only [List.setIfInBounds_toArray]
                try simp only [List.set_cons_succ]
                try simp only [List.set_cons_zero]
                refine pureZ (i := 8) (d := some 99) (v := ?_) rfl rfl (by decide) (by kernel_rfl) (by kernel_rfl) (by kernel_rfl) (fun _ _ _ h => h) (by rfl) ?_ (by assumption) ?_
                rotate_left
                · intro w; (try go_simp); (try with_reducible rfl)
                try simp only [Act.put]
                try simp only [List.setIfInBounds_toArray]
                try simp only [List.set_cons_succ]
                try simp only [List.set_cons_zero]
                refine readZ [] (i := 9) (d := some 100) (v := ?_) rfl rfl (by decide) (by kernel_rfl) (by kernel_rfl) (by kernel_rfl) (by kernel_rfl) (fun _ _ _ h => h) (by rfl) ?_ (by assumption) ?_
                rotate_left
                · intro w hSw; (try dsimp only at hSw); (try have l0 := hSw; go_simp); (try with_reducible rfl)
                try simp only [Act.put]
                try simp only [List.setIfInBounds_toArray]
                try simp only [List.set_cons_succ]
                try simp only [List.set_cons_zero]
                refine pureZ (i := 10) (d := some 101) (v := ?_) rfl rfl (by decide) (by kernel_rfl) (by kernel_rfl) (by kernel_rfl) (fun _ _ _ h => h) (by rfl) ?_ (by assumption) ?_
                rotate_left
                · intro w; (try go_simp); (try with_reducible rfl)
                try simp only [Act.put]
                try simp only [List.setIfInBounds_toArray]
                try simp only [List.set_cons_succ]
                try simp only [List.set_cons_zero]
                refine pureZ (i := 11) (d := some 102) (v := ?_) rfl rfl (by decide) (by kernel_rfl) (by kernel_rfl) (by kernel_rfl) (fun _ _ _ h => h) (by rfl) ?_ (by assumption) ?_
                rotate_left
                · intro w; (try go_simp); (try with_reducible rfl)
                try simp only [Act.put]
                try simp only [List.setIfInBounds_toArray]
                try simp only [List.set_cons_succ]
                try simp only [List.set_cons_zero]
                refine pureZ (i := 12) (d := some 103) (v := ?_) rfl rfl (by decide) (by kernel_rfl) (by kernel_rfl) (by kernel_rfl) (fun _ _ _ h => h) (by rfl) ?_ (by assumption) ?_
                rotate_left
                · intro w; (try go_simp); (try with_reducible rfl)
                try simp only [Act.put]
                try simp only [List.setIfInBounds_toArray]
                try simp only [List.set_cons_succ]
                try simp only [List.set_cons_zero]
                refine pureZ (i := 13) (d := some 104) (v := ?_) rfl rfl (by decide) (by kernel_rfl) (by kernel_rfl) (by kernel_rfl) (fun _ _ _ h => h) (by rfl) ?_ (by assumption) ?_
                rotate_left
                · intro w; (try go_simp); (try with_reducible rfl)
                try simp only [Act.put]
                try simp only [List.setIfInBounds_toArray]
                try simp only [List.set_cons_succ]
                try simp only [List.set_cons_zero]
                have l1 := CB.out
                have f1 := FB.out
                refine lastZ (by kernel_rfl) rfl (by rfl) (fun K hK => ?_)
                go_simp
                try dsimp only
                refine hK.out _ _ ?_
                clear hK K
                try simp only [Act.put]
                try simp only [List.setIfInBounds_toArray]
                try simp only [List.set_cons_succ]
                try simp only [List.set_cons_zero]
                refine doneZ (by kernel_rfl) ?_
                have N3 := Lib.hid (P.out.1.ext (Ext.refl _).drew)
                have E3 := Lib.hid ((EW2.out.below P.out.2.2.2.1).drew)
                have S4 := Lib.hid ((S3.out.kt P.out.2.2.1 (by decide)).ext (Ext.refl _).drew)
                have W4 := Lib.hid ((W3.out.kt P.out.2.2.1 (by decide)).ext (Ext.refl _).drew)
                have c18 : (w2.setCell ⟨bb, a, none⟩ (.slice (some ⟨tb, 0, none⟩) q oc)).drew.cell? ⟨bb, a, none⟩ = some (.slice (some ⟨tb, 0, none⟩) q oc) := by simp [go_sem, CB.out]
                clear P CB FB hHeld l1 f1 S3 W3 hwq
                generalize (w2.setCell ⟨bb, a, none⟩ (.slice (some ⟨tb, 0, none⟩) q oc)).drew = w3 at *
                rcases HCASE.out with ⟨hne, hset⟩ | ⟨hnil, htake⟩
                · have hq0 : ((q : Int) == 0) = false := beq_eq_false_iff_ne.2 (by have := List.length_pos_iff.2 hne; have := HQ.out; omega)
                  have L9 := LRel.pop R'.out h7 (by have := HL.out; have := HP.out; omega) NOW'.out NN'.out E3.out (hset ▸ N3.out) S4.out W4.out
                  have HL9 := Lib.hid L9
                  clear L9 hset hne
                  go_wp2_with fail
                  go_roundw
                  case rel => exact ⟨_, HL9.out.1⟩
                  case measure =>
                    rw [M.out]
                    refine LMeas_lt (g := (rs', a + 1)) HL9.out.1 ?_
                    show remL ((a + 1) :: rs'.map (· + 1)) < remL (n :: rs.map (· + 1))
                    rw [HRS.out]
                    exact HL9.out.2
                · have hq0 : q = 0 := by have := HQ.out; rw [hnil] at this; simpa using this.symm
                  subst hq0
                  have L9 := LRel.pop R'.out h7 (by have := HL.out; have := HP.out; omega) NOW'.out NN'.out E3.out (htake ▸ (N3.out.cut (k := a) (by have := HA.out; simp; omega))) S4.out W4.out
                  have HL9 := Lib.hid L9
                  clear L9 htake hnil
                  go_wp2_with fail
                  go_roundw
                  case rel => exact ⟨_, HL9.out.1⟩
                  case measure =>
                    rw [M.out]
                    refine LMeas_lt (g := (rs', a + 1)) HL9.out.1 ?_
                    show remL ((a + 1) :: rs'.map (· + 1)) < remL (n :: rs.map (· + 1))
                    rw [HRS.out]
                    exact HL9.out.2
      · have b1 : ¬ ((rs.length : Int) < (ts.length : Int)) := by omega
        have e : rs.length = ts.length := by omega
        have POK := putR_ok (show PlacesOk ts rs from R.out.ok) hpl
        have hout : putR ts rs = leastW room ts := by
          have h1 : nowL room (leastN room ts) ts rs n = some (leastW room ts) := R.out.now
          rw [now_done e] at h1
          exact Option.some.inj h1
        have NB := Lib.hid (show NestW wb wo wb.heap.size wb.heap.size (.slice ba (putR ts rs).length bc) (putR ts rs) from R.out.nest)
        have BI := Lib.hid (Nest.done (NB.out.nest hext) (by have := POK.2; unfold lim; omega) (fun b hb => by have := (POK.1 b hb).2.1; unfold lim; omega))
        have N3 := Lib.hid (show ∀ b ∈ putR ts rs, ∀ t ∈ b, t.need.length = 3 from fun b hb t ht => (OKT.out.good t ((POK.1 b hb).2.2 t ht)).1)
        have HO := Lib.hid hout
        have EXT := Lib.hid hext
        clear POK hout e hext CT FT SK WK M R
        go_wp2_with fail
        refine (copyBins_any _ (putR ts rs) _ BI.out N3.out).mono ?_
        rintro e w2 ⟨a2, c2, rfl, hE2, hN⟩
        have EF := Lib.hid ((EB.out.trans EXT.out).trans hE2)
        have NF := Lib.hid (hN.base (EB.out.trans EXT.out).le)
        clear hE2 hN
        go_wp2
        go_ret
        exact ⟨a2, c2, by rw [Hd.out, ← HO.out]; rfl, EF.out, by rw [Hd.out, ← HO.out]; exact NF.out⟩

end Go.Proofs.YtfidamjepjgknaaDoor

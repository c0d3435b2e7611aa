/- The head words of the program's own mark, read without reading the whole mark: what the law's closed facts ask of them. No condition. -/
import Derived.Test.YtfidamjepjgknaaDoorRows
import Derived.JoinedOf
namespace Go.Proofs.YtfidamjepjgknaaDoor
set_option maxRecDepth 100000

def sp : Char := Char.ofNat 32
theorem words_app (a r : List Char) (h : a.all (fun c => c != sp) = true) : wordsSigns (a ++ sp :: r) = a :: wordsSigns r := by
  induction a with
  | nil => rfl
  | cons c a ih =>
    simp only [List.all_cons, Bool.and_eq_true, bne_iff_ne, ne_eq] at h
    have e := ih h.2
    rw [List.cons_append, wordsSigns.eq_3 _ _ h.1, e]
def headOk (l : List Char) : Bool :=
  l.take 8 == "harness ".toList && ((l.drop 8).take 64).all (fun c => c != sp) && isSumSigns ((l.drop 8).take 64) && (l.drop 72).take 5 == " cut ".toList
theorem words_of {l : List Char} (h : headOk l = true) : ∃ X, behindMainWord (wordsSigns l) = "cut".toList :: X := by
  unfold headOk at h
  simp only [Bool.and_eq_true, beq_iff_eq] at h
  obtain ⟨⟨⟨h1, h2⟩, h3⟩, h4⟩ := h
  have e0 : l = "harness".toList ++ sp :: l.drop 8 := by
    have := List.take_append_drop 8 l
    rw [h1] at this
    exact this.symm
  have e1 : l.drop 8 = (l.drop 8).take 64 ++ l.drop 72 := by
    have := List.take_append_drop 64 (l.drop 8)
    rw [List.drop_drop] at this
    exact this.symm
  have e2 : l.drop 72 = sp :: ("cut".toList ++ sp :: l.drop 77) := by
    have := List.take_append_drop 5 (l.drop 72)
    rw [h4, List.drop_drop] at this
    exact this.symm
  generalize (l.drop 8).take 64 = S at *
  generalize l.drop 77 = R at *
  have e : wordsSigns l = "harness".toList :: S :: "cut".toList :: wordsSigns R := by
    rw [e0, words_app _ _ (by rfl), e1, e2, words_app _ _ h2, words_app _ _ (by rfl)]
  rw [e]
  refine ⟨wordsSigns R, ?_⟩
  simp only [behindMainWord]
  rw [if_pos (by rw [h3]; rfl)]
theorem strip_cut (X : List (List Char)) : stripLifts liftWords ("cut".toList :: X) = ([], "cut".toList :: X) := by kernel_rfl
theorem may_of {P : Program} {X : List (List Char)} (e : behindMainWord (wordsSigns P.initOrder.toList) = "cut".toList :: X) (h1 : P.laysLater = false) (h2 : P.bearsReflect = false) (h3 : P.doorFits [] = true) : P.mayEnter = true := by
  unfold Program.mayEnter
  rw [e]
  simp only [strip_cut, h1, h2, h3]
  kernel_rfl
theorem lifts_of {P : Program} {X : List (List Char)} (e : behindMainWord (wordsSigns P.initOrder.toList) = "cut".toList :: X) : P.liftsFinal = false := by
  unfold Program.liftsFinal Program.headLifts
  rw [e]
  kernel_rfl
theorem make_of {P : Program} {X : List (List Char)} (e : behindMainWord (wordsSigns P.initOrder.toList) = "cut".toList :: X) : P.make = some .cut := by
  unfold Program.make
  rw [e]
  kernel_rfl
theorem signs_of : ∃ l, Tryd.prog.initOrder = String.ofList l ∧ headOk l = true := ⟨_, rfl, by kernel_rfl⟩
theorem head_words : ∃ X, behindMainWord (wordsSigns Tryd.prog.initOrder.toList) = "cut".toList :: X := by
  obtain ⟨l, e, h⟩ := signs_of
  rw [e, String.toList_ofList]
  exact words_of h
theorem may_enter : Tryd.prog.mayEnter = true := let ⟨_, e⟩ := head_words; may_of e (by kernel_rfl) (by kernel_rfl) (by kernel_rfl)
theorem lifts_final : Tryd.prog.liftsFinal = false := let ⟨_, e⟩ := head_words; lifts_of e
theorem make_cut : Tryd.prog.make = some .cut := let ⟨_, e⟩ := head_words; make_of e

/-- The closed facts of a law's row, the head words left out. -/
theorem joined_of {f : FuncId} {fn : Func} {s : ChangeSpec} {c : OpenClaim} (h : ∀ P : Program, P.mayEnter = true → P.liftsFinal = false → P.make = some .cut → P = Tryd.prog → joinedFacts P f fn s c = true) : joinedFacts Tryd.prog f fn s c = true := h _ may_enter lifts_final make_cut rfl

end Go.Proofs.YtfidamjepjgknaaDoor

/- Plain laws of a task that is put by first fit. No program in sight. No condition. -/
import Derived.Test.YtapkpphdkdbclaaS15
import Derived.Test.YtapkpphdkdbclaaLim
namespace Go.Proofs.Ytapkpphdkdbclaa
set_option maxRecDepth 100000

theorem binsOk_lim {room : List Int} {bs : List (List T)} (h : BinsOk room bs) : bs.length + weigh bs ≤ lim := by
  have := weigh_small (bs := bs) h.1.2.1 (fun t ht => (h.1.good t ht).1)
  have := h.2.1
  unfold lim; omega
theorem firstPutL_lim (room : List Int) (bs : List (List T)) (x : T) : (firstPutL room bs x).length + weigh (firstPutL room bs x) ≤ lim := by
  cases h : ok11 room bs x with
  | true => rw [firstPutL_yes h]; exact binsOk_lim (put_ok h)
  | false => simp [firstPutL, h, weigh, lim]
theorem id_new {room : List Int} {bs : List (List T)} {x : T} (h : ok11 room bs x = true) : ∀ b ∈ bs, b.any (isId x.id) = false := by
  intro b hb
  rw [List.any_eq_false]
  intro t ht
  unfold isId
  simp only [beq_iff_eq]
  intro e
  have hn := (tasksOk_iff.1 (ok11_facts h).2.1).2.2.2
  rw [List.map_append, List.nodup_append] at hn
  exact hn.2.2 t.id (List.mem_map.2 ⟨t, List.mem_flatten.2 ⟨b, hb, ht⟩, rfl⟩) x.id (by simp) e
theorem put_where_new {room : List Int} {bs : List (List T)} {x : T} (h : ok11 room bs x = true) (ho : at11 room bs x = none) : whereI room (firstPutL room bs x) x.id = (bs.length : Int) := by
  unfold whereI
  rw [firstPutL_yes h, if_pos (binsB_iff.2 (put_ok h)), ho, putL_none]
  have : where0 (bs ++ [[x]]) x.id = some bs.length := by
    unfold where0
    rw [List.findIdx?_eq_some_iff_getElem]
    refine ⟨by simp, ?_, fun j hj => ?_⟩
    · rw [List.getElem_append_right (Nat.le_refl _)]; simp
    · rw [List.getElem_append_left hj]
      have := id_new h _ (List.getElem_mem hj)
      unfold isId at this
      rw [this]; simp
  rw [this]
  rfl
theorem put_where_old {room : List Int} {bs : List (List T)} {x : T} {k : Nat} (h : ok11 room bs x = true) (ho : at11 room bs x = some k) : whereI room (firstPutL room bs x) x.id = (k : Int) := by
  have hk : k < bs.length := by
    rcases at11_chooses room bs x with ⟨e, _⟩ | ⟨i, hi, e, _⟩
    · rw [ho] at e; cases e
    · rw [ho] at e; cases e; exact hi
  unfold whereI
  rw [firstPutL_yes h, if_pos (binsB_iff.2 (put_ok h)), ho, putL_some hk]
  have : where0 (bs.set k (bs[k] ++ [x])) x.id = some k := by
    unfold where0
    rw [List.findIdx?_eq_some_iff_getElem]
    refine ⟨by simpa using hk, ?_, fun j hj => ?_⟩
    · rw [List.getElem_set_self]; simp
    · rw [List.getElem_set_ne (by omega)]
      have := id_new h _ (List.getElem_mem (show j < bs.length by omega))
      unfold isId at this
      rw [this]; simp
  rw [this]
  rfl

end Go.Proofs.Ytapkpphdkdbclaa

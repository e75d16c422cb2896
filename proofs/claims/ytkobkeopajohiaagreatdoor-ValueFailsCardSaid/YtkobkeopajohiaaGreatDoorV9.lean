/-
  ARGUMENTS GATHERED, one behind the other.
-/
import Derived.Test.YtkobkeopajohiaaGreatDoorV4
import Derived.Deep.AppendLies
namespace Go.Proofs.YtkobkeopajohiaaGreatDoor
open Go.RowKit Go.Lib

def argCells (r : Nat) : List Value := [.int .i64 1, .int .i64 1, .bool false, .slice (some ⟨r, 0, none⟩) 1 1]
/-- the slice v owns the arguments vs, one value each, each value in a block of its own: rs -/
def GathersR (w : World) (base : Nat) (v : Value) (vs : List V) (rs : List Nat) : Prop := rs.length = vs.length ∧ w.ownsRow base 98 4 v vs.length (rs.flatMap argCells) ∧
  ∀ (i r : Nat) (u : V), rs[i]? = some r → vs[i]? = some u → Held w r u ∧ v.ownBlock ≠ some r
theorem flat_at : ∀ (rs : List Nat) (i r j : Nat), rs[i]? = some r → j < 4 → (rs.flatMap argCells)[i * 4 + j]? = (argCells r)[j]?
  | [], i, r, j, h, _ => by simp at h
  | x :: rs, 0, r, j, h, hj => by
    simp at h; subst h
    rw [List.flatMap_cons, List.getElem?_append_left (by simp [argCells]; omega)]
    simp
  | x :: rs, i + 1, r, j, h, hj => by
    rw [List.flatMap_cons, List.getElem?_append_right (by simp [argCells]; omega)]
    have := flat_at rs i r j (by simpa using h) hj
    rw [← this]
    congr 1
    simp [argCells]; omega
theorem flat_len : ∀ rs : List Nat, (rs.flatMap argCells).length = rs.length * 4
  | [] => rfl
  | x :: rs => by rw [List.flatMap_cons, List.length_append, flat_len rs]; simp [argCells]; omega
theorem GathersR.at {w : World} {base : Nat} {v : Value} {vs : List V} {rs : List Nat} (h : GathersR w base v vs rs) (hn : 0 < vs.length) : ∃ g cap, v = .slice (some ⟨g, 0, none⟩) vs.length cap ∧ base ≤ g ∧ ArgsAt w g vs := by
  obtain ⟨hl, ho, hh⟩ := h
  obtain ⟨g, cap, rfl, hb, hg⟩ := ho.form hn
  refine ⟨g, cap, rfl, hb, hg, fun k u hk => ?_⟩
  have hk' : k < vs.length := (List.getElem?_eq_some_iff.1 hk).1
  obtain ⟨r, hr⟩ : ∃ r, rs[k]? = some r := ⟨rs[k]'(by omega), List.getElem?_eq_getElem _⟩
  refine ⟨r, (hh k r u hr hk).1, ?_, ?_, ?_, ?_⟩
  · exact (ho.cellAt (k * 4) (by omega)).trans (flat_at rs k r 0 hr (by omega))
  · exact (ho.cellAt (k * 4 + 1) (by omega)).trans (flat_at rs k r 1 hr (by omega))
  · exact (ho.cellAt (k * 4 + 2) (by omega)).trans (flat_at rs k r 2 hr (by omega))
  · exact (ho.cellAt (k * 4 + 3) (by omega)).trans (flat_at rs k r 3 hr (by omega))
theorem GathersR.nil (w : World) (base : Nat) (v : Value) (h : w.ownsRow base 98 4 v 0 []) : GathersR w base v [] [] := ⟨rfl, h, fun i r u hr => by simp at hr⟩
theorem GathersR.below {w w' : World} {base : Nat} {v : Value} {vs : List V} {rs : List Nat} (h : GathersR w base v vs rs) (hb : Below w.heap.size w w') : GathersR w' base v vs rs := by
  obtain ⟨hl, ho, hh⟩ := h
  exact ⟨hl, owns_below ho hb, fun i r u h1 h2 => ⟨(hh i r u h1 h2).1.below hb (hh i r u h1 h2).1.1, (hh i r u h1 h2).2⟩⟩
/-- more arguments: behind the append -/
theorem GathersR.more {w w' : World} {base : Nat} {v : Value} {vs us : List V} {rs rs' : List Nat} (h : GathersR w base v vs rs) (hl' : rs'.length = us.length) (hnew : ∀ (i r : Nat) (u : V), rs'[i]? = some r → us[i]? = some u → Held w r u ∧ v.ownBlock ≠ some r)
    (g cap : Nat) (hown : w'.ownsRow base 98 4 (.slice (some ⟨g, 0, none⟩) (vs.length + us.length) cap) (vs.length + us.length) (rs.flatMap argCells ++ rs'.flatMap argCells)) (hgrow : w.grownBy w' v.ownBlock) (hat : v.ownBlock = some g ∨ g = w.heap.size) :
    GathersR w' base (.slice (some ⟨g, 0, none⟩) (vs.length + us.length) cap) (vs ++ us) (rs ++ rs') := by
  obtain ⟨hl, ho, hh⟩ := h
  have key : ∀ r u, (Held w r u ∧ v.ownBlock ≠ some r) → (Held w' r u ∧ (Value.slice (some ⟨g, 0, none⟩) (vs.length + us.length) cap).ownBlock ≠ some r) := fun r u ⟨h1, h2⟩ => by
    refine ⟨⟨Nat.lt_of_lt_of_le h1.1 hgrow.size, h1.2.imp fun _ e => (hgrow.block r h1.1 (fun e => h2 e.symm)).trans e⟩, fun e => ?_⟩
    have e' : g = r := by simpa [Value.ownBlock] using e
    rcases hat with h3 | h3
    · exact h2 (by rw [h3, e'])
    · have := h1.1; omega
  refine ⟨by simp [hl, hl'], ?_, fun i r u h1 h2 => ?_⟩
  · rw [List.length_append, List.flatMap_append]
    exact hown
  · by_cases hi : i < rs.length
    · rw [List.getElem?_append_left hi] at h1
      rw [List.getElem?_append_left (by omega)] at h2
      exact key r u (hh i r u h1 h2)
    · rw [List.getElem?_append_right (by omega)] at h1
      rw [List.getElem?_append_right (by omega), ← hl] at h2
      exact key r u (hnew _ r u h1 h2)
theorem info61 : (Tryz.prog.info? 98).map (fun i => (i.zero, i.size, i.bytes)) = some (some (.agg #[.int .i64 0, .int .i64 0, .bool false, .slice none 0 0]), 4, 48) := by kernel_rfl
end Go.Proofs.YtkobkeopajohiaaGreatDoor

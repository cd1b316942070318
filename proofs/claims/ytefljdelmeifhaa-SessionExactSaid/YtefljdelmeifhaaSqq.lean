/-
  What the acts lead to has no hits, and is short.
-/
import Derived.Test.YtefljdelmeifhaaSq
set_option linter.unusedVariables false
set_option linter.unusedSimpArgs false
namespace Go.Proofs.Ytefljdelmeifhaa
open Go.Eng
def okL (l : List Sess) : Prop := (∀ s ∈ l, s.hits = []) ∧ l.length ≤ 100
theorem okL_nil : okL [] := ⟨fun s h => by simp at h, by simp⟩
theorem may_okL {l : List Sess} (h : mayB l = true) : (∀ s ∈ l, s.hits = []) ∧ l.length ≤ 8 := by
  simp only [mayB, Bool.and_eq_true, decide_eq_true_eq] at h
  obtain ⟨h1, _⟩ := mayFrom_facts _ _ h.2
  refine ⟨fun s hs => ?_, by omega⟩
  obtain ⟨i, hi, rfl⟩ := List.mem_iff_getElem.1 hs
  exact (h1 i l[i] (List.getElem?_eq_getElem hi)).2
theorem closeF_ok (l : List Sess) (k : Int) : okL (closeF l k).1 := by
  unfold closeF
  split
  · rename_i h
    obtain ⟨h1, h2⟩ := may_okL h
    unfold closeS
    split
    · exact okL_nil
    · exact ⟨fun s hs => h1 s (List.mem_of_mem_eraseIdx hs), by simp only [List.length_eraseIdx]; split <;> omega⟩
  · exact okL_nil
theorem doneF_ok (l : List Sess) (k seq : Int) (r : Sess) (idx : Int) : okL (doneF l k seq r idx).1 := by
  unfold doneF
  split
  · rename_i h
    obtain ⟨h1, h2⟩ := may_okL h
    unfold doneS
    split
    · unfold doneU
      split
      · exact okL_nil
      · simp only
        split
        · refine ⟨fun s hs => ?_, by simp; omega⟩
          rcases List.mem_or_eq_of_mem_set hs with h3 | h3
          · exact h1 s h3
          · rw [h3]; rfl
        · exact okL_nil
    · exact okL_nil
  · exact okL_nil
theorem openF_ok (l : List Sess) (k : Int) : okL (openF l k).1 := by
  unfold openF
  split
  · rename_i h
    have hm : mayB l = true := by simp at h; exact h.1
    obtain ⟨h1, h2⟩ := may_okL hm
    have key : ∀ m : List Sess, (∀ s ∈ m, s.hits = []) → m.length ≤ 8 → okL (insS m k) := fun m g1 g2 => by
      refine ⟨fun s hs => ?_, by simp [insS]; omega⟩
      rcases List.mem_append.1 hs with hs | hs
      · exact g1 s (List.mem_of_mem_take hs)
      · rcases List.mem_cons.1 hs with rfl | hs
        · rfl
        · exact g1 s (List.mem_of_mem_drop hs)
    unfold openS
    split
    · exact key _ (fun s hs => h1 s (List.mem_of_mem_eraseIdx hs)) (by rw [List.length_eraseIdx]; split <;> omega)
    · exact key _ h1 h2
  · exact okL_nil
theorem bare_okL {q : List SQ} {l : List Sess} (h : okL l) (e : ss q = l) : bare q ∧ q.length ≤ 100 := by
  subst e
  exact ⟨fun x hx => h.1 x.1 (List.mem_map_of_mem hx), by simpa using h.2⟩
end Go.Proofs.Ytefljdelmeifhaa

/-
  THE ENGINE's OPENING: what an argument, read as data, is made of.
-/
import Derived.Test.YtaclpbkbjmbceaaEngE
import Derived.DataReads
import Derived.OpenShut
import Derived.SizedLaws
set_option linter.unusedVariables false
set_option linter.unusedSimpArgs false
namespace Go.Eng
open Go.RowKit
/-- These cells read as data of this type. -/
def Lk {H : Type} (enc : TypeId × Value → H) (P : Program) (w : World) (t : TypeId) (cs : List Value) : Prop := ∃ n x, DataW.trod enc P w 0 (fun _ => true) true n t cs = some x ∧ ∀ k ∈ x.1.weights P t, k ≤ 140737488351232
section
variable {H : Type} {enc : TypeId × Value → H} {P : Program} {w : World} {t : TypeId} {cs : List Value}
theorem Lk.int {k : IntKind} (ht : P.underlying t = some (.int k)) (h : Lk enc P w t cs) : ∃ n, cs = [.int k n] ∧ (Lit.int k n).wf = true := by
  obtain ⟨n, x, h, hk⟩ := h
  cases n with
  | zero => simp [DataW.trod] at h
  | succ m =>
    unfold DataW.trod at h
    rw [ht] at h
    split at h <;> simp_all
    all_goals exact ⟨_, rfl, h.1.2⟩
theorem Lk.bool (ht : P.underlying t = some .bool) (h : Lk enc P w t cs) : ∃ b, cs = [.bool b] := by
  obtain ⟨n, x, h, hk⟩ := h
  cases n with
  | zero => simp [DataW.trod] at h
  | succ m =>
    unfold DataW.trod at h
    rw [ht] at h
    split at h <;> simp_all
theorem Lk.string (ht : P.underlying t = some .string) (h : Lk enc P w t cs) : ∃ s, cs = [.string s] ∧ s.size ≤ 140737488351232 := by
  obtain ⟨n, x, h, hk⟩ := h
  cases n with
  | zero => simp [DataW.trod] at h
  | succ m =>
    unfold DataW.trod at h
    rw [ht] at h
    split at h <;> try (simp_all; done)
    case _ s h1 =>
      try simp only at h
      split at h
      · injection h with h
        subst h
        refine ⟨s, rfl, ?_⟩
        have := hk s.data.toList.length (by simp [DataW.weights])
        simpa using this
      · cases h
theorem Lk.struct {fs : Array Field} (ht : P.underlying t = some (.struct fs)) (h : Lk enc P w t cs) : cs.length = P.cellsOf t ∧ ∀ f ∈ fs.toList, Lk enc P w f.type ((cs.drop f.offset).take (P.cellsOf f.type)) := by
  obtain ⟨n, x, h, hk⟩ := h
  cases n with
  | zero => simp [DataW.trod] at h
  | succ m =>
    unfold DataW.trod at h
    rw [ht] at h
    split at h <;> try (simp_all; done)
    case _ fs' h1 =>
      injection h1 with h1
      injection h1 with h1
      subst h1
      split at h
      · rename_i hl
        simp only [Option.map_eq_some_iff] at h
        obtain ⟨xs, hp, rfl⟩ := h
        refine ⟨hl, fun f hf => ?_⟩
        obtain ⟨i, hi, rfl⟩ := List.getElem_of_mem hf
        have := mapM_some_get hp i _ (List.getElem?_eq_getElem hi)
        have hlt : i < xs.length := by rw [mapM_some_length hp]; exact hi
        rw [List.getElem?_eq_getElem hlt] at this
        refine ⟨_, _, this, fun k hk2 => hk k ?_⟩
        simp only [DataW.weights, ht]
        exact DataW.weights_mem_each (j := i) (t := fs.toList[i].type) (by rw [List.getElem?_map, List.getElem?_eq_getElem hi]; rfl) (by rw [List.getElem?_map, List.getElem?_eq_getElem hlt]; rfl) k hk2
      · cases h
theorem Lk.slice {e : TypeId} (ht : P.underlying t = some (.slice e)) (hs : 0 < P.cellsOf e) (h : Lk enc P w t cs) : ∃ (A : Option Addr) (xs : List (List Value)) (c : Nat), cs = [.slice A xs.length c] ∧ xs.length ≤ c ∧ c * P.bytesOf e ≤ 140737488351232 ∧ Rd w A (P.cellsOf e) xs ∧ ∀ y ∈ xs, y.length = P.cellsOf e ∧ Lk enc P w e y := by
  obtain ⟨n, x, h, hk⟩ := h
  cases n with
  | zero => simp [DataW.trod] at h
  | succ m =>
    unfold DataW.trod at h
    rw [ht] at h
    split at h <;> try (simp_all; done)
    case _ e' h1 =>
      exact ⟨none, [], 0, by simp_all, Nat.le_refl _, by simp, fun h => absurd h (by simp), fun y hy => by cases hy⟩
    case _ e' a len cap h1 =>
      injection h1 with h1
      injection h1 with h1
      subst h1
      simp only at h
      split at h
      · rename_i hb
        simp only [Option.map_eq_some_iff, Option.bind_eq_some_iff] at h
        obtain ⟨elems, he, rest, hrest, rfl⟩ := h
        have hlen : elems.length = len := by simpa using mapM_some_length he
        have hrl : rest.length = cap - len := by
          simp only [if_true] at hrest
          simpa using mapM_some_length hrest
        have hone : ∀ i, i < len → ∃ c y, w.cells? 0 (a.add (i * P.cellsOf e)) (P.cellsOf e) = some c ∧ DataW.trod enc P w 0 (fun _ => true) true m e c = some y ∧ y ∈ elems := fun i hi => by
          have h2 := mapM_some_get he i i (by simp [hi])
          have hlt : i < elems.length := by omega
          rw [List.getElem?_eq_getElem hlt] at h2
          simp only [Option.bind_eq_some_iff] at h2
          obtain ⟨c, h3, h4⟩ := h2
          exact ⟨c, _, h3, h4, List.getElem_mem _⟩
        obtain ⟨f, hf⟩ : ∃ f : Nat → List Value, ∀ i, i < len → w.cells? 0 (a.add (i * P.cellsOf e)) (P.cellsOf e) = some (f i) ∧ ∃ y, DataW.trod enc P w 0 (fun _ => true) true m e (f i) = some y ∧ y ∈ elems := by
          refine ⟨fun i => if hi : i < len then Classical.choose (hone i hi) else [], fun i hi => ?_⟩
          obtain ⟨y, h3, h4⟩ := Classical.choose_spec (hone i hi)
          simp only [hi, dif_pos]
          exact ⟨h3, y, h4⟩
        refine ⟨some a, (List.range len).map f, cap, by simp, by simp; exact hb.2.1, by
          have := hk ((elems.map (·.1)).length * 1 * P.bytesOf e + (rest.map (·.1)).length * P.bytesOf e) (by simp [DataW.weights, ht, Nat.add_mul])
          simp only [List.length_map, Nat.mul_one, ← Nat.add_mul, hlen, hrl] at this
          have h9 : len + (cap - len) = cap := by omega
          rwa [h9] at this, fun hn => ?_, fun y hy => ?_⟩
        · simp at hn
          obtain ⟨b, o, spot⟩ := a
          have hspot : spot = none := by
            obtain ⟨h3, _⟩ := hf 0 hn
            obtain ⟨_, h5, h6⟩ := World.cells?_some h3
            have h7 := h6 0 hs
            have h8 : 0 < (f 0).length := by omega
            rw [List.getElem?_eq_getElem h8] at h7
            have := World.cell?_spot h7
            simpa [Addr.add] using this
          subst hspot
          refine ⟨b, o, rfl, fun j c hj => ?_⟩
          rw [List.getElem?_map] at hj
          by_cases hjl : j < len
          · rw [List.getElem?_range hjl] at hj
            simp at hj
            subst hj
            obtain ⟨h3, _⟩ := hf j hjl
            obtain ⟨_, h5, h6⟩ := World.cells?_some h3
            refine ⟨h5, fun i u hu => ?_⟩
            have hi : i < P.cellsOf e := by have := (List.getElem?_eq_some_iff.1 hu).1; omega
            have := h6 i hi
            rw [add_mk, add_mk, hu] at this
            exact this
          · simp [hjl] at hj
        · obtain ⟨i, hi, rfl⟩ := List.mem_map.1 hy
          simp at hi
          obtain ⟨h3, y, h4, h5⟩ := hf i hi
          refine ⟨(World.cells?_some h3).2.1, m, y, h4, fun k hk2 => hk k ?_⟩
          have hall : ∀ (l : List (DataW H)) (d : DataW H), d ∈ l → k ∈ d.weights P e → k ∈ DataW.weightsAll P e l := by
            intro l
            induction l with
            | nil => intro d hd; cases hd
            | cons a l ih =>
              intro d hd hkd
              simp only [DataW.weightsAll, List.mem_append]
              rcases List.mem_cons.1 hd with rfl | hd
              · exact .inl hkd
              · exact .inr (ih d hd hkd)
          simp only [DataW.weights, ht, List.mem_cons, List.mem_append]
          exact .inr (.inl (hall _ _ (List.mem_map_of_mem h5) hk2))
      · cases h
theorem Rd.rdo {w : World} {A : Option Addr} {s : Nat} {xs : List (List Value)} (hs : 0 < s) (h : Rd w A s xs) : RdO w (fpAll []) A s xs := fun hn => by
  obtain ⟨b, o, h1, h2⟩ := h hn
  exact ⟨hs, b, o, h1, fun h => h, h2⟩
/-- A list, each of which is some x's cells. -/
theorem pick_map {α β : Type} {enc : α → β} {p : α → Prop} : ∀ {xs : List β}, (∀ y ∈ xs, ∃ x, y = enc x ∧ p x) → ∃ l : List α, xs = l.map enc ∧ ∀ x ∈ l, p x
  | [], _ => ⟨[], rfl, fun x hx => by cases hx⟩
  | y :: r, h => by
    obtain ⟨x, rfl, hx⟩ := h y List.mem_cons_self
    obtain ⟨l, rfl, hl⟩ := pick_map (xs := r) fun z hz => h z (List.mem_cons_of_mem _ hz)
    exact ⟨x :: l, rfl, fun z hz => (List.mem_cons.1 hz).elim (fun e => e ▸ hx) (hl z)⟩
end
end Go.Eng

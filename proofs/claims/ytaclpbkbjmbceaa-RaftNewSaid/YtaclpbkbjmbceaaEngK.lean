/-
  THE ENGINE's BUNDLES: atoms taken together.
-/
import Derived.Test.YtaclpbkbjmbceaaEngJ
set_option linter.unusedVariables false
set_option linter.unusedSimpArgs false
namespace Go.Eng
open Go.RowKit
section
variable {w0 w : World} {F0 : Nat → Prop} {As Bs Rs : List Atom}
theorem HeapOK.pick (h : HeapOK w0 F0 As w) (hp : Pick As Bs Rs) : HeapOK w0 F0 Bs w := (hw_pick h hp)
where hw_pick (h : HeapOK w0 F0 As w) (hp : Pick As Bs Rs) : HeapOK w0 F0 Bs w := (h.perm hp.perm).mono (List.pairwise_append.1 (h.perm hp.perm).sep).1 fun B hB => List.mem_append_left _ hB
theorem HeapOK.merge {A B : Atom} (h : HeapOK w0 F0 (A :: B :: Rs) w) {G : Nat → Prop} {p : World → Prop} (hG : ∀ k, G k ↔ A.fp k ∨ B.fp k) (hp : ∀ w', (∀ k, G k → w'.heap[k]? = w.heap[k]?) → A.ok w' → B.ok w' → p w') : HeapOK w0 F0 (.gen G p :: Rs) w := by
  obtain ⟨h1, h2⟩ := List.pairwise_cons.1 h.sep
  obtain ⟨h3, h4⟩ := List.pairwise_cons.1 h2
  refine ⟨h.os, h.tape, h.output, h.size, h.frame, List.pairwise_cons.2 ⟨fun C hC k hk hk' => ?_, h4⟩, fun C hC => ?_, fun C hC k hk => ?_⟩
  · rcases (hG k).1 hk with hk | hk
    · exact h1 C (List.mem_cons_of_mem _ hC) k hk hk'
    · exact h3 C hC k hk hk'
  · rcases List.mem_cons.1 hC with rfl | hC
    · intro w' hw'
      exact hp w' hw' (A.local (fun k hk => hw' k ((hG k).2 (.inl hk))) (h.ok A List.mem_cons_self)) (B.local (fun k hk => hw' k ((hG k).2 (.inr hk))) (h.ok B (List.mem_cons_of_mem _ List.mem_cons_self)))
    · exact h.ok C (List.mem_cons_of_mem _ (List.mem_cons_of_mem _ hC))
  · rcases List.mem_cons.1 hC with rfl | hC
    · rcases (hG k).1 hk with hk | hk
      · exact h.dom A List.mem_cons_self k hk
      · exact h.dom B (List.mem_cons_of_mem _ List.mem_cons_self) k hk
    · exact h.dom C (List.mem_cons_of_mem _ (List.mem_cons_of_mem _ hC)) k hk
theorem HeapOK.gen0 (h : HeapOK w0 F0 As w) {p : World → Prop} (hp : ∀ w', p w') : HeapOK w0 F0 (.gen (fun _ => False) p :: As) w :=
  h.push (Below.refl _ _) (fun w' _ => hp w') fun k hk => by cases hk
theorem HeapOK.genP (h : HeapOK w0 F0 As w) {G : Nat → Prop} {p : World → Prop} (hA : Has As (.gen G p)) : p w := (h.ok _ hA.mem) w fun _ _ => rfl
section
variable {α : Type} {enc : α → List Value} {s : Nat} {l : List α} {A : Option Addr} {c : Nat}
theorem Sl.mono {F F' : Nat → Prop} (h : Sl w F enc s l A c) (hF : ∀ k, F' k → F k) : Sl w F' enc s l A c := by
  refine ⟨fun hn => ?_, h.cap, h.len⟩
  obtain ⟨h1, b, o, h2, h3, h4⟩ := h.rd hn
  exact ⟨h1, b, o, h2, fun hb => h3 (hF b hb), h4⟩
/-- What lies in a bundle's blocks, for a callee that is not handed the bundle. -/
theorem Sl.gen {G : Nat → Prop} {p : World → Prop} (h : Sl w (fun k => ¬ G k) enc s l A c) (hw : HeapOK w0 F0 As w) (hp : Pick As Bs Rs) (hA : Has Rs (.gen G p)) : Sl w (fpAll Bs) enc s l A c := h.mono fun k hk hG => by
  obtain ⟨B, hB1, hB2⟩ := fpAll_mem.1 hk
  exact (List.pairwise_append.1 (hw.perm hp.perm).sep).2.2 B hB1 _ hA.mem k hB2 hG
/-- The same world, but for what lies elsewhere. -/
theorem Sl.same {w' : World} {G : Nat → Prop} (h : Sl w (fun k => ¬ G k) enc s l A c) (hw : ∀ k, G k → w'.heap[k]? = w.heap[k]?) : Sl w' (fun k => ¬ G k) enc s l A c := by
  refine ⟨fun hn => ?_, h.cap, h.len⟩
  obtain ⟨h1, b, o, h2, h3, h4⟩ := h.rd hn
  have hb : w'.heap[b]? = w.heap[b]? := hw b (Classical.byContradiction fun h => h3 h)
  exact ⟨h1, b, o, h2, h3, fun j c hj => ⟨(h4 j c hj).1, fun i u hu => (World.cell?_of_block (w := w) (w' := w') (a := ⟨b, o + j * s + i, none⟩) hb).trans ((h4 j c hj).2 i u hu)⟩⟩
/-- A row, as a part of a bundle. -/
theorem Sl.ofRow {el : TypeId} {n : Nat} (hs : 0 < s) (hA : Atom.ok (.row (.slice A n c) el s (l.map enc)) w) (hlen : l.length ≤ 140737488355328) : Sl w (fun k => ¬ (Value.slice A n c).ownBlock = Option.some k) enc s l A c := by
  obtain ⟨A', c', h1, h2, _⟩ := row_form hA
  injection h1 with e1 e2 e3
  subst e3
  refine ⟨fun hn => ?_, by simpa using h2, hlen⟩
  obtain ⟨b, o, h3, h4⟩ := row_rd hA hn
  refine ⟨hs, b, o, h3, fun hb => ?_, h4⟩
  subst h3
  exact hb rfl
end
end
end Go.Eng

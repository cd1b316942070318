/-
  THE ENGINE's BLOCKS THAT ARE READ: a block that a callee is handed to read.
-/
import Derived.Test.YtaclpbkbjmbceaaEngM
set_option linter.unusedVariables false
set_option linter.unusedSimpArgs false
namespace Go.Eng
open Go.RowKit
structure BlkO (w : World) (F : Nat → Prop) (b : Nat) (cs : List Value) (u : TypeId) : Prop where
  blk : w.heap[b]? = some (.cells cs.toArray u (0, 0))
  out : ¬ F b
section
variable {w0 w : World} {F0 : Nat → Prop} {As Bs Rs : List Atom} {b : Nat} {cs : List Value} {u : TypeId}
theorem HeapOK.blkO (hw : HeapOK w0 F0 As w) (hp : Pick As Bs Rs) (hA : Has Rs (.blk b cs u)) : BlkO w (fpAll Bs) b cs u := by
  have hm : Atom.blk b cs u ∈ As := (hp.perm.mem_iff).2 (List.mem_append_right _ hA.mem)
  refine ⟨hw.ok _ hm, fun hB => ?_⟩
  obtain ⟨B, hB1, hB2⟩ := fpAll_mem.1 hB
  exact (List.pairwise_append.1 (hw.perm hp.perm).sep).2.2 B hB1 _ hA.mem b hB2 rfl
theorem BlkO.lt (h : BlkO w0 F0 b cs u) : b < w0.heap.size := (Array.getElem?_eq_some_iff.1 h.blk).1
theorem BlkO.at (h : BlkO w0 F0 b cs u) (hw : HeapOK w0 F0 As w) : w.heap[b]? = some (.cells cs.toArray u (0, 0)) := (hw.frame b h.lt h.out).trans h.blk
theorem BlkO.rd (h : BlkO w0 F0 b cs u) (hw : HeapOK w0 F0 As w) {s : Nat} (hs : cs.length = s) : Rd w (some ⟨b, 0, none⟩) s [cs] := fun _ => by
  refine ⟨b, 0, rfl, fun j c hj => ?_⟩
  match j, hj with
  | 0, hj =>
    simp at hj
    subst hj
    refine ⟨hs, fun i v hv => ?_⟩
    rw [cell_of_row w b _ cs.toArray _ (0, 0) (h.at hw)]
    simpa using hv
theorem BlkO.apart (h : BlkO w0 F0 b cs u) (hw : HeapOK w0 F0 As w) {g n c : Nat} {el : TypeId} {s : Nat} {xs : List (List Value)} (hA : Has As (.row (.slice (some ⟨g, 0, none⟩) n c) el s xs)) : b ≠ g ∧ ∃ tA kA, w.shape? b = some (tA, kA) ∧ w.frozen? ⟨b, 0, none⟩ = false ∧ w.frozen? ⟨b, kA, none⟩ = false := by
  have hb := h.at hw
  refine ⟨fun e => ?_, u, cs.length, by simp [World.shape?, hb], frozen_of_row w b _ cs.toArray u hb, frozen_of_row w b _ cs.toArray u hb⟩
  subst e
  rcases (hw.dom _ hA.mem b rfl).1 with h1 | h1
  · exact h.out h1
  · exact absurd h.lt (Nat.not_lt.2 h1)
end
theorem ovw_parts {α : Type} (P M Q vs : List α) (h : M.length = vs.length) : ovw (P ++ (M ++ Q)) P.length vs = P ++ (vs ++ Q) := by
  unfold ovw
  have e1 : (P ++ (M ++ Q)).drop (P.length + vs.length) = Q := by
    rw [← h, ← List.length_append, ← List.append_assoc]
    exact List.drop_left
  rw [List.take_left, e1, List.append_assoc]
theorem ins_eq1 {α : Type} (xs zs : List α) (y : α) (k : Nat) (h : k ≤ xs.length) (hz : zs.length = xs.length + 1 - k) : ovw (ovw (xs.take k ++ zs) k [y]) (k + 1) (xs.drop k) = xs.take k ++ y :: xs.drop k := by
  have l1 : (xs.take k).length = k := by rw [List.length_take, Nat.min_eq_left h]
  obtain ⟨z, r, rfl⟩ : ∃ z r, zs = z :: r := by
    cases zs with
    | nil => simp at hz; omega
    | cons z r => exact ⟨z, r, rfl⟩
  have hr : r.length = (xs.drop k).length := by simp at hz ⊢; omega
  have e1 := ovw_parts (xs.take k) [z] r [y] rfl
  rw [l1] at e1
  have e2 := ovw_parts (xs.take k ++ [y]) r [] (xs.drop k) hr
  have l2 : (xs.take k ++ [y]).length = k + 1 := by rw [List.length_append, l1]; rfl
  rw [l2] at e2
  simp only [List.singleton_append, List.append_nil, List.append_assoc] at e1 e2 ⊢
  rw [e1]
  exact e2
theorem ins_eq2 {α : Type} (xs zs : List α) (y : α) (k : Nat) (h : k < xs.length) (hz : zs.length = 1) : ovw (ovw (xs ++ zs) (k + 1) (xs.drop k)) k [y] = xs.take k ++ y :: xs.drop k := by
  have l1 : (xs.take k).length = k := by rw [List.length_take, Nat.min_eq_left (by omega)]
  have e0 : xs = xs.take k ++ (xs[k] :: xs.drop (k + 1)) := by rw [← List.drop_eq_getElem_cons h, List.take_append_drop]
  have l2 : (xs.take k ++ [xs[k]]).length = k + 1 := by rw [List.length_append, l1]; rfl
  have hl : (xs.drop (k + 1) ++ zs).length = (xs.drop k).length := by simp; omega
  have e2 := ovw_parts (xs.take k ++ [xs[k]]) (xs.drop (k + 1) ++ zs) [] (xs.drop k) hl
  rw [l2] at e2
  have e3 := ovw_parts (xs.take k) [xs[k]] (xs.drop k) [y] rfl
  rw [l1] at e3
  have e4 : xs ++ zs = xs.take k ++ [xs[k]] ++ (xs.drop (k + 1) ++ zs ++ []) := by
    have e5 : ∀ (P Q : List α) (a : α), (P ++ a :: Q) ++ zs = P ++ [a] ++ (Q ++ zs ++ []) := fun P Q a => by simp
    have e6 := e5 (xs.take k) (xs.drop (k + 1)) xs[k]
    rwa [← e0] at e6
  rw [e4, e2]
  simp only [List.singleton_append, List.append_nil, List.append_assoc] at e3 ⊢
  exact e3
end Go.Eng

/-
  THE ENGINE's ROWS: what is appended to, stored into, copied over, cut; slices built; the remaining arithmetic.
-/
import Derived.Test.YtaclpbkbjmbceaaEngE
set_option linter.unusedVariables false
set_option linter.unusedSimpArgs false
namespace Go.Eng
open Go.RowKit

/-! ### 1. Guards on what was not reached -/
theorem unwanted_u {n : Nat} {ops : Array Oper} {e : Env} {o : Oper} {j t : Nat} {b : Bool} (h : o.guard = some (j, b)) (hd : (ops[j]?).bind (·.dst) = some t) (hv : efind e t = some undef) : Unwanted n ops e o := .mk fun a ha => by
  have h1 := ha.get t _ hv
  have h2 : yielded ops a.tmps j = none := by
    unfold yielded
    rw [hd]
    cases h2 : a.tmps[t]? with
    | none => simp [h2]
    | some u =>
      simp [h2] at h1
      subst h1
      simp [h2, undef]
  simp [Region.wanted, h, h2]

/-! ### 2. Atoms taken, given, turned -/
section
variable {Γ : Ctx} {e : Env} {As As' Bs Rs : List Atom} {w0 w w' : World} {F0 : Nat → Prop}
theorem Ent.pick (h : Pick As Bs Rs) : Ent Γ As Bs := .mk fun w hw => (hw.perm h.perm).mono (List.pairwise_append.1 (hw.perm h.perm).sep).1 fun B hB => List.mem_append_left _ hB
theorem Ent.nilrow (el : TypeId) (s : Nat) : Ent Γ As (.row (.slice none 0 0) el s [] :: As) := .mk fun w hw =>
  hw.push (Below.refl _ _) ⟨World.ownsRow_nil w 0 el s, fun c hc => by cases hc⟩ fun k hk => by simp [Atom.fp, Value.ownBlock] at hk
theorem HeapOK.nilrow (hw : HeapOK w0 F0 As w) (el : TypeId) (s : Nat) : HeapOK w0 F0 (.row (.slice none 0 0) el s [] :: As) w :=
  hw.push (Below.refl _ _) ⟨World.ownsRow_nil w 0 el s, fun c hc => by cases hc⟩ fun k hk => by simp [Atom.fp, Value.ownBlock] at hk
/-- An atom turned where it stands: nothing is written. -/
theorem HeapOK.turn {A A' : Atom} (h : HeapOK w0 F0 (A :: As) w) (hok : A'.ok w) (hfp : ∀ k, A'.fp k → A.fp k) : HeapOK w0 F0 (A' :: As) w :=
  h.rep .here rfl rfl rfl (Nat.le_refl _) (fun _ _ _ => rfl) hok fun k hk => ⟨.inl (hfp k hk), (h.dom A List.mem_cons_self k (hfp k hk)).2⟩
theorem tl_ent {ops : Array Oper} {Q : Exit → Act → World → Prop} {rest : List Oper} (ha : Ent Γ As Bs) (h : TL Γ ops Q rest e Bs) : TL Γ ops Q rest e As := h.weaken Sub.refl ha
theorem tc_ent {Q : Exit → Act → World → Prop} {c : Code} (ha : Ent Γ As Bs) (h : TC Γ Q c e Bs) : TC Γ Q c e As := h.weaken Sub.refl ha
theorem tk_ent {K : Act → World → Prop} (ha : Ent Γ As Bs) (h : TK Γ K e Bs) : TK Γ K e As := h.weaken Sub.refl ha
/-- What is known of the heap, drawn out. -/
theorem tl_know {ops : Array Oper} {Q : Exit → Act → World → Prop} {rest : List Oper} {α : Type} {Bs : α → List Atom} (hk : ∀ w, HeapOK Γ.w0 Γ.F0 As w → ∃ x, HeapOK Γ.w0 Γ.F0 (Bs x) w) (h : ∀ x, TL Γ ops Q rest e (Bs x)) : TL Γ ops Q rest e As := .mk fun a w he hw => by
  obtain ⟨x, hx⟩ := hk w hw
  exact (h x).h a w he hx
theorem tc_know {Q : Exit → Act → World → Prop} {c : Code} {α : Type} {Bs : α → List Atom} (hk : ∀ w, HeapOK Γ.w0 Γ.F0 As w → ∃ x, HeapOK Γ.w0 Γ.F0 (Bs x) w) (h : ∀ x, TC Γ Q c e (Bs x)) : TC Γ Q c e As := .mk fun a w he hw => by
  obtain ⟨x, hx⟩ := hk w hw
  exact (h x).h a w he hx
theorem tk_know {K : Act → World → Prop} {α : Type} {Bs : α → List Atom} (hk : ∀ w, HeapOK Γ.w0 Γ.F0 As w → ∃ x, HeapOK Γ.w0 Γ.F0 (Bs x) w) (h : ∀ x, TK Γ K e (Bs x)) : TK Γ K e As := .mk fun a w he hw => by
  obtain ⟨x, hx⟩ := hk w hw
  exact (h x).h a w he hx
theorem tc_fact {Q : Exit → Act → World → Prop} {c : Code} {p : Prop} (hk : ∀ w, HeapOK Γ.w0 Γ.F0 As w → p) (h : p → TC Γ Q c e As) : TC Γ Q c e As := .mk fun a w he hw => (h (hk w hw)).h a w he hw
theorem tl_fact {ops : Array Oper} {Q : Exit → Act → World → Prop} {rest : List Oper} {p : Prop} (hk : ∀ w, HeapOK Γ.w0 Γ.F0 As w → p) (h : p → TL Γ ops Q rest e As) : TL Γ ops Q rest e As := .mk fun a w he hw => (h (hk w hw)).h a w he hw
theorem tk_fact {K : Act → World → Prop} {p : Prop} (hk : ∀ w, HeapOK Γ.w0 Γ.F0 As w → p) (h : p → TK Γ K e As) : TK Γ K e As := .mk fun a w he hw => (h (hk w hw)).h a w he hw

/-! ### 3. A row's cells -/
def ovw {α : Type} (X : List α) (p : Nat) (vs : List α) : List α := X.take p ++ vs ++ X.drop (p + vs.length)
theorem ovw_length {α : Type} {X : List α} {p : Nat} {vs : List α} (h : p + vs.length ≤ X.length) : (ovw X p vs).length = X.length := by simp [ovw]; omega
theorem ovw_take {α : Type} {X : List α} {p N : Nat} {vs : List α} (h : p + vs.length ≤ N) (hN : N ≤ X.length) : (ovw X p vs).take N = ovw (X.take N) p vs := by
  unfold ovw
  apply List.ext_getElem?
  intro i
  simp only [List.getElem?_take, List.getElem?_append, List.length_append, List.length_take, List.getElem?_drop]
  repeat' split
  all_goals (first | rfl | omega | skip)
  all_goals (first | (congr 1; omega) | (simp only [List.getElem?_take]; split; rfl; omega) | skip)
  all_goals (try (rw [if_pos (by omega)]; congr 1; omega))
theorem ovw_flatten {xs zs : List (List Value)} {s k : Nat} (hx : ∀ c ∈ xs, c.length = s) (hz : ∀ c ∈ zs, c.length = s) (hk : k + zs.length ≤ xs.length) : (ovw xs k zs).flatten = ovw xs.flatten (k * s) zs.flatten := by
  have e1 : xs = xs.take k ++ (xs.drop k) := (List.take_append_drop k xs).symm
  have l1 : (xs.take k).flatten.length = k * s := by
    rw [flatten_length (s := s) fun c hc => hx c (List.mem_of_mem_take hc), List.length_take, Nat.min_eq_left (by omega)]
  have l2 : zs.flatten.length = zs.length * s := flatten_length hz
  have l3 : (xs.take (k + zs.length)).flatten.length = (k + zs.length) * s := by
    rw [flatten_length (s := s) fun c hc => hx c (List.mem_of_mem_take hc), List.length_take, Nat.min_eq_left (by omega)]
  have t1 : xs.flatten.take (k * s) = (xs.take k).flatten := by
    conv => lhs; rw [e1, List.flatten_append, ← l1]
    exact List.take_left
  have t2 : xs.flatten.drop (k * s + zs.flatten.length) = (xs.drop (k + zs.length)).flatten := by
    conv => lhs; rw [← List.take_append_drop (k + zs.length) xs, List.flatten_append, l2, ← Nat.add_mul, ← l3]
    exact List.drop_left
  unfold ovw
  rw [t1, t2]
  simp
theorem ovw_mid {α : Type} (P c Q vs : List α) (o : Nat) (h : o + vs.length ≤ c.length) : ovw (P ++ (c ++ Q)) (P.length + o) vs = P ++ (ovw c o vs ++ Q) := by
  unfold ovw
  rw [List.take_append, List.take_of_length_le (by omega), show P.length + o - P.length = o by omega, List.take_append_of_le_length (by omega), Nat.add_assoc, List.drop_append, List.drop_of_length_le (by omega), show P.length + (o + vs.length) - P.length = o + vs.length by omega, List.drop_append_of_le_length h]
  simp
theorem ovw_elt {xs : List (List Value)} {s k o : Nat} {c vs : List Value} (hx : ∀ c ∈ xs, c.length = s) (hc : xs[k]? = some c) (ho : o + vs.length ≤ s) : (xs.set k (ovw c o vs)).flatten = ovw xs.flatten (k * s + o) vs := by
  have hk : k < xs.length := (List.getElem?_eq_some_iff.1 hc).1
  have hcl : c.length = s := hx c (List.mem_of_getElem? hc)
  have hck : xs[k] = c := (List.getElem?_eq_some_iff.1 hc).2
  have e0 : xs = xs.take k ++ (c :: xs.drop (k + 1)) := by rw [← hck, ← List.drop_eq_getElem_cons hk, List.take_append_drop]
  have l1 : (xs.take k).flatten.length = k * s := by
    rw [flatten_length (s := s) fun c hc => hx c (List.mem_of_mem_take hc), List.length_take, Nat.min_eq_left (by omega)]
  rw [List.set_eq_take_append_cons_drop, if_pos hk]
  conv => rhs; rw [e0]
  simp only [List.flatten_append, List.flatten_cons]
  rw [← l1, ovw_mid _ _ _ _ _ (by omega)]
end
end Go.Eng

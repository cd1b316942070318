/-
  THE ENGINE's STATE: what is known of a frame's temporaries (a list of pairs), what is known of the heap (a list of atoms, no two of which share a block), and how the heap's steps carry it over.
-/
import Derived.Test.YtaclpbkbjmbceaaEngQ
import Derived.Below
import Derived.Laws.AppendOwn
import Derived.Laws.OwnMore
import Derived.Laws.MakeOwn
import Derived.Maps.AppendAt
import Derived.WalkKit
set_option linter.unusedVariables false
set_option linter.unusedSimpArgs false
namespace Go.Eng
open Go.RowKit

/-! ### 1. Temporaries -/
abbrev Env := List (Nat × Value)
def efind : Env → Nat → Option Value
  | [], _ => none
  | (k, v) :: r, d => cond (Nat.beq k d) (some v) (efind r d)
def ev (e : Env) : Operand → Option Value
  | .tmp t => efind e t
  | .const v => some v
  | .global g => some (.pointer (some ⟨g, 0, none⟩))
  | .func f => some (.func (.func f) #[] #[])
structure EnvOK (n : Nat) (e : Env) (a : Act) : Prop where
  size : a.tmps.size = n
  defers : a.defers = []
  get : ∀ d v, efind e d = some v → a.tmps.getD d undef = v
theorem efind_cons {k : Nat} {v : Value} {r : Env} {d : Nat} : efind ((k, v) :: r) d = if k = d then some v else efind r d := by
  show cond (Nat.beq k d) (some v) (efind r d) = _
  cases h : Nat.beq k d with
  | true => have := Nat.eq_of_beq_eq_true h; simp [this]
  | false => have := Nat.ne_of_beq_eq_false h; simp [this]
theorem EnvOK.eval {n : Nat} {e : Env} {a : Act} (h : EnvOK n e a) {x : Operand} {v : Value} (hx : ev e x = some v) : a.eval x = v := by
  cases x with
  | tmp t => exact h.get t v hx
  | const u => simp [ev] at hx; simp [Act.eval, hx]
  | global g => simp [ev] at hx; simp [Act.eval, hx]
  | func f => simp [ev] at hx; simp [Act.eval, hx]
theorem EnvOK.put {n : Nat} {e : Env} {a : Act} (h : EnvOK n e a) {d : Nat} (hd : Nat.blt d n = true) (v : Value) : EnvOK n ((d, v) :: e) (a.put (some d) v) := by
  have hd : d < n := by simpa [Nat.blt_eq] using hd
  refine ⟨by simpa [Act.put] using h.size, h.defers, fun k u hk => ?_⟩
  rw [efind_cons] at hk
  split at hk
  · rename_i hkd
    subst hkd
    injection hk with hk
    subst hk
    have : d < a.tmps.size := by rw [h.size]; exact hd
    simp [Act.put, this]
  · rename_i hkd
    have := h.get k u hk
    simp only [Act.put]
    simpa [Array.getElem?_setIfInBounds_ne hkd] using this
/-- What is forgotten: a slot that is put and not told. -/
theorem EnvOK.put_none {n : Nat} {e : Env} {a : Act} (h : EnvOK n e a) (v : Value) : EnvOK n e (a.put none v) := h
def evL (e : Env) : List Operand → Option (List Value)
  | [] => some []
  | x :: r => match ev e x, evL e r with
    | some v, some vs => some (v :: vs)
    | _, _ => none
theorem EnvOK.evalL {n : Nat} {e : Env} {a : Act} (h : EnvOK n e a) : ∀ {l : List Operand} {us : List Value}, evL e l = some us → l.map a.eval = us
  | [], us, hl => by simp [evL] at hl; simp [hl]
  | x :: r, us, hl => by
    unfold evL at hl
    cases hx : ev e x with
    | none => rw [hx] at hl; simp at hl
    | some v =>
      cases hr : evL e r with
      | none => rw [hx, hr] at hl; simp at hl
      | some vs =>
        rw [hx, hr] at hl
        injection hl with hl
        subst hl
        simp [h.eval hx, EnvOK.evalL h hr]
def evP (e : Env) : List (Nat × Operand) → Option (List (Nat × Value))
  | [] => some []
  | (k, x) :: r => match ev e x, evP e r with
    | some v, some vs => some ((k, v) :: vs)
    | _, _ => none
theorem EnvOK.evalP {n : Nat} {e : Env} {a : Act} (h : EnvOK n e a) : ∀ {l : List (Nat × Operand)} {us : List (Nat × Value)}, evP e l = some us → l.map (fun p => (p.1, a.eval p.2)) = us
  | [], us, hl => by simp [evP] at hl; simp [hl]
  | (k, x) :: r, us, hl => by
    unfold evP at hl
    cases hx : ev e x with
    | none => rw [hx] at hl; simp at hl
    | some v =>
      cases hr : evP e r with
      | none => rw [hx, hr] at hl; simp at hl
      | some vs =>
        rw [hx, hr] at hl
        injection hl with hl
        subst hl
        simp [h.eval hx, EnvOK.evalP h hr]
/-- e' knows all that e knows. -/
def Sub (e' e : Env) : Prop := ∀ d v, efind e d = some v → efind e' d = some v
theorem Sub.nil {e' : Env} : Sub e' [] := fun d v h => by cases h
theorem Sub.refl {e : Env} : Sub e e := fun _ _ h => h
theorem Sub.cons {e' e : Env} {d : Nat} {v : Value} (h : efind e' d = some v) (k : Sub e' e) : Sub e' ((d, v) :: e) := by
  intro c u hc
  rw [efind_cons] at hc
  split at hc
  · rename_i h1; subst h1; exact h.trans hc
  · exact k c u hc
theorem EnvOK.sub {n : Nat} {e e' : Env} {a : Act} (h : EnvOK n e' a) (hs : Sub e' e) : EnvOK n e a := ⟨h.size, h.defers, fun d v hd => h.get d v (hs d v hd)⟩

/-! ### 2. The heap -/
inductive Atom where
  | blk (g : Nat) (cells : List Value) (ty : TypeId)
  | row (v : Value) (e : TypeId) (size : Nat) (xs : List (List Value))
  | gen (F : Nat → Prop) (p : World → Prop)
def Atom.fp : Atom → Nat → Prop
  | .blk g _ _, k => k = g
  | .row v _ _ _, k => v.ownBlock = some k
  | .gen F _, k => F k
def Atom.ok : Atom → World → Prop
  | .blk g cs ty, w => w.heap[g]? = some (.cells cs.toArray ty (0, 0))
  | .row v e size xs, w => w.ownsRow 0 e size v xs.length xs.flatten ∧ ∀ c ∈ xs, c.length = size
  | .gen F p, w => ∀ w' : World, (∀ k, F k → w'.heap[k]? = w.heap[k]?) → p w'
theorem Atom.local (A : Atom) {w w' : World} (h : ∀ k, A.fp k → w'.heap[k]? = w.heap[k]?) (hok : A.ok w) : A.ok w' := by
  cases A with
  | blk g cs ty => exact (h g rfl).trans hok
  | row v e size xs =>
    refine ⟨⟨hok.1.1, ?_⟩, hok.2⟩
    rcases hok.1.2 with h1 | ⟨g, cap, cur, rfl, hb, hg, rest⟩
    · exact .inl h1
    · exact .inr ⟨g, cap, cur, rfl, hb, (h g rfl).trans hg, rest⟩
  | gen F p => exact fun w2 h2 => hok w2 fun k hk => (h2 k hk).trans (h k hk)

class HeapOK (w0 : outParam World) (F0 : outParam (Nat → Prop)) (As : outParam (List Atom)) (w : World) : Prop where
  os : w.os = w0.os
  tape : w.tape = w0.tape
  output : w.output = w0.output
  size : w0.heap.size ≤ w.heap.size
  frame : ∀ k, k < w0.heap.size → ¬ F0 k → w.heap[k]? = w0.heap[k]?
  sep : As.Pairwise fun A B => ∀ k, A.fp k → ¬ B.fp k
  ok : ∀ A ∈ As, A.ok w
  dom : ∀ A ∈ As, ∀ k, A.fp k → (F0 k ∨ w0.heap.size ≤ k) ∧ k < w.heap.size

section
variable {w0 w w' : World} {F0 : Nat → Prop} {As Bs : List Atom}

theorem HeapOK.start (w : World) : HeapOK w F0 [] w := ⟨rfl, rfl, rfl, Nat.le_refl _, fun _ _ _ => rfl, List.Pairwise.nil, fun _ h => absurd h List.not_mem_nil, fun _ h => absurd h List.not_mem_nil⟩
theorem HeapOK.drawn (h : HeapOK w0 F0 As w) (n : Nat) : HeapOK w0 F0 As { w with drawn := n } :=
  ⟨h.os, h.tape, h.output, h.size, h.frame, h.sep, fun A hA => A.local (w := w) (fun _ _ => rfl) (h.ok A hA), h.dom⟩
theorem HeapOK.below (h : HeapOK w0 F0 [] w) (hF : ∀ k, ¬ F0 k) : Below w0.heap.size w0 w := ⟨h.os, h.tape, h.output, h.size, fun k hk => h.frame k hk (hF k)⟩
/-- A sublist, in whatever order. -/
theorem HeapOK.mono (h : HeapOK w0 F0 As w) (hs : Bs.Pairwise fun A B => ∀ k, A.fp k → ¬ B.fp k) (hsub : ∀ B ∈ Bs, B ∈ As) : HeapOK w0 F0 Bs w :=
  ⟨h.os, h.tape, h.output, h.size, h.frame, hs, fun A hA => h.ok A (hsub A hA), fun A hA => h.dom A (hsub A hA)⟩
theorem HeapOK.drop1 {A : Atom} (h : HeapOK w0 F0 (A :: As) w) : HeapOK w0 F0 As w := h.mono (List.pairwise_cons.1 h.sep).2 fun B hB => List.mem_cons_of_mem _ hB
theorem HeapOK.nilA (h : HeapOK w0 F0 As w) : HeapOK w0 F0 [] w := h.mono List.Pairwise.nil fun _ hB => by cases hB
theorem HeapOK.perm (h : HeapOK w0 F0 As w) (hp : As.Perm Bs) : HeapOK w0 F0 Bs w :=
  h.mono ((hp.pairwise_iff fun {A B} (hh : ∀ k, A.fp k → ¬ B.fp k) k hB hA => hh k hA hB).1 h.sep) fun B hB => hp.mem_iff.2 hB
/-- Nothing that was there has turned. -/
theorem HeapOK.grow (h : HeapOK w0 F0 As w) (hb : Below w.heap.size w w') : HeapOK w0 F0 As w' := by
  refine ⟨hb.os.trans h.os, hb.tape.trans h.tape, hb.output.trans h.output, Nat.le_trans h.size hb.size, fun k hk hF => (hb.block k (Nat.lt_of_lt_of_le hk h.size)).trans (h.frame k hk hF), h.sep, fun A hA => ?_, fun A hA k hk => ?_⟩
  · exact A.local (fun k hk => hb.block k (h.dom A hA k hk).2) (h.ok A hA)
  · obtain ⟨h1, h2⟩ := h.dom A hA k hk
    exact ⟨h1, Nat.lt_of_lt_of_le h2 hb.size⟩
/-- .. and an atom of new blocks. -/
theorem HeapOK.push (h : HeapOK w0 F0 As w) (hb : Below w.heap.size w w') {A : Atom} (hA : A.ok w') (hn : ∀ k, A.fp k → w.heap.size ≤ k ∧ k < w'.heap.size) : HeapOK w0 F0 (A :: As) w' := by
  have g := h.grow hb
  refine ⟨g.os, g.tape, g.output, g.size, g.frame, List.pairwise_cons.2 ⟨fun B hB k hk hk' => ?_, g.sep⟩, fun B hB => ?_, fun B hB k hk => ?_⟩
  · have h1 := (h.dom B hB k hk').2
    have h2 := (hn k hk).1
    omega
  · rcases List.mem_cons.1 hB with rfl | hB
    · exact hA
    · exact g.ok B hB
  · rcases List.mem_cons.1 hB with rfl | hB
    · obtain ⟨h1, h2⟩ := hn k hk
      exact ⟨.inr (Nat.le_trans h.size h1), h2⟩
    · exact g.dom B hB k hk

/-- As' is As with one A turned into A'. -/
inductive Rep : List Atom → Atom → Atom → List Atom → Prop where
  | here {A A' : Atom} {r : List Atom} : Rep (A :: r) A A' (A' :: r)
  | there {A A' B : Atom} {r r' : List Atom} : Rep r A A' r' → Rep (B :: r) A A' (B :: r')
theorem Rep.mem {As As' : List Atom} {A A' : Atom} (h : Rep As A A' As') : A ∈ As := by
  induction h with
  | here => exact List.mem_cons_self
  | there _ ih => exact List.mem_cons_of_mem _ ih
theorem Rep.mem' {As As' : List Atom} {A A' : Atom} (h : Rep As A A' As') : ∀ B ∈ As', B = A' ∨ B ∈ As := by
  induction h with
  | here => exact fun B hB => (List.mem_cons.1 hB).imp id (List.mem_cons_of_mem _)
  | there _ ih =>
    intro B hB
    rcases List.mem_cons.1 hB with rfl | hB
    · exact .inr List.mem_cons_self
    · exact (ih B hB).imp id (List.mem_cons_of_mem _)
theorem Rep.sep {As As' : List Atom} {A A' : Atom} (h : Rep As A A' As') (S : Nat → Prop) (hs : As.Pairwise fun A B => ∀ k, A.fp k → ¬ B.fp k) (hd : ∀ B ∈ As, ∀ k, B.fp k → S k) (hA : ∀ k, A'.fp k → A.fp k ∨ ¬ S k) :
    (As'.Pairwise fun A B => ∀ k, A.fp k → ¬ B.fp k) ∧ ∀ B ∈ As', B = A' ∨ (B ∈ As ∧ ∀ k, A.fp k → ¬ B.fp k) := by
  induction h with
  | @here A A' r =>
    obtain ⟨h1, h2⟩ := List.pairwise_cons.1 hs
    refine ⟨List.pairwise_cons.2 ⟨fun B hB k hk hk' => ?_, h2⟩, fun B hB => ?_⟩
    · rcases hA k hk with h3 | h3
      · exact h1 B hB k h3 hk'
      · exact h3 (hd B (List.mem_cons_of_mem _ hB) k hk')
    · rcases List.mem_cons.1 hB with rfl | hB
      · exact .inl rfl
      · exact .inr ⟨List.mem_cons_of_mem _ hB, h1 B hB⟩
  | @there A A' B r r' hr ih =>
    obtain ⟨h1, h2⟩ := List.pairwise_cons.1 hs
    obtain ⟨i1, i2⟩ := ih h2 (fun C hC => hd C (List.mem_cons_of_mem _ hC)) hA
    have hBA : ∀ k, A.fp k → ¬ B.fp k := fun k hk hk' => h1 A hr.mem k hk' hk
    refine ⟨List.pairwise_cons.2 ⟨fun C hC k hk hk' => ?_, i1⟩, fun C hC => ?_⟩
    · rcases i2 C hC with rfl | ⟨h3, _⟩
      · rcases hA k hk' with h4 | h4
        · exact hBA k h4 hk
        · exact h4 (hd B List.mem_cons_self k hk)
      · exact h1 C h3 k hk hk'
    · rcases List.mem_cons.1 hC with rfl | hC
      · exact .inr ⟨List.mem_cons_self, hBA⟩
      · exact (i2 C hC).imp id fun ⟨h3, h4⟩ => ⟨List.mem_cons_of_mem _ h3, h4⟩
/-- A step that turns one atom alone: what it leaves lies in the atom's own blocks or in new ones. -/
theorem HeapOK.rep {As' : List Atom} {A A' : Atom} (h : HeapOK w0 F0 As w) (hr : Rep As A A' As') (hos : w'.os = w.os) (ht : w'.tape = w.tape) (ho : w'.output = w.output) (hsz : w.heap.size ≤ w'.heap.size)
    (hb : ∀ k, k < w.heap.size → ¬ A.fp k → w'.heap[k]? = w.heap[k]?) (hok : A'.ok w') (hfp : ∀ k, A'.fp k → (A.fp k ∨ w.heap.size ≤ k) ∧ k < w'.heap.size) : HeapOK w0 F0 As' w' := by
  obtain ⟨h1, h2⟩ := hr.sep (fun k => k < w.heap.size) h.sep (fun B hB k hk => (h.dom B hB k hk).2) fun k hk => (hfp k hk).1.imp id (by omega)
  refine ⟨hos.trans h.os, ht.trans h.tape, ho.trans h.output, Nat.le_trans h.size hsz, fun k hk hF => ?_, h1, fun B hB => ?_, fun B hB k hk => ?_⟩
  · refine (hb k (Nat.lt_of_lt_of_le hk h.size) fun hA => ?_).trans (h.frame k hk hF)
    rcases (h.dom A hr.mem k hA).1 with h3 | h3
    · exact hF h3
    · omega
  · rcases h2 B hB with rfl | ⟨h3, h4⟩
    · exact hok
    · exact B.local (fun k hk => hb k (h.dom B h3 k hk).2 fun hA => h4 k hA hk) (h.ok B h3)
  · rcases h2 B hB with rfl | ⟨h3, h4⟩
    · obtain ⟨h5, h6⟩ := hfp k hk
      refine ⟨?_, h6⟩
      rcases h5 with h5 | h5
      · exact (h.dom A hr.mem k h5).1
      · exact .inr (Nat.le_trans h.size h5)
    · obtain ⟨h5, h6⟩ := h.dom B h3 k hk
      exact ⟨h5, Nat.lt_of_lt_of_le h6 hsz⟩

/-- A block is among the atoms. -/
inductive Has : List Atom → Atom → Prop where
  | here {A : Atom} {r : List Atom} : Has (A :: r) A
  | there {A B : Atom} {r : List Atom} : Has r A → Has (B :: r) A
theorem Has.mem {As : List Atom} {A : Atom} (h : Has As A) : A ∈ As := by
  induction h with
  | here => exact List.mem_cons_self
  | there _ ih => exact List.mem_cons_of_mem _ ih
theorem HeapOK.blk (h : HeapOK w0 F0 As w) {g : Nat} {cs : List Value} {ty : TypeId} (hA : Has As (.blk g cs ty)) : w.heap[g]? = some (.cells cs.toArray ty (0, 0)) := h.ok _ hA.mem
theorem HeapOK.cell (h : HeapOK w0 F0 As w) {g : Nat} {cs : List Value} {ty : TypeId} (hA : Has As (.blk g cs ty)) (i : Nat) : w.cell? ⟨g, i, none⟩ = cs[i]? := by
  rw [cell_of_row w g i cs.toArray ty (0, 0) (h.blk hA)]; simp

/-- A new block. -/
theorem HeapOK.alloc (h : HeapOK w0 F0 As w) (cs : List Value) (ty : TypeId) : HeapOK w0 F0 (.blk w.heap.size cs ty :: As) (w.alloc (.cells cs.toArray ty)) :=
  h.push ((Below.refl _ _).alloc (Nat.le_refl _) _) (A := .blk w.heap.size cs ty) (heap_alloc_new w _) fun k hk => by
    have hk : k = w.heap.size := hk
    subst hk
    simp
/-- A store into a block that is known whole. -/
theorem HeapOK.store {As' : List Atom} (h : HeapOK w0 F0 As w) {g : Nat} {cs : List Value} {ty : TypeId} (i : Nat) (v : Value) (hr : Rep As (.blk g cs ty) (.blk g (cs.set i v) ty) As') : HeapOK w0 F0 As' (w.setCell ⟨g, i, none⟩ v) := by
  have hg : w.heap[g]? = some (.cells cs.toArray ty (0, 0)) := h.ok _ hr.mem
  refine h.rep hr rfl rfl rfl (by simp) (fun k _ hk => heap_setCell_other w _ k v hk) ?_ fun k hk => ⟨.inl hk, ?_⟩
  · show (w.setCell ⟨g, i, none⟩ v).heap[g]? = _
    rw [heap_setCell_same w g i cs.toArray ty v hg]
    simp
  · have hk : k = g := hk
    subst hk
    have := (Array.getElem?_eq_some_iff.1 hg).1
    simpa using this
end

/-! ### 3. A slice that is read -/
/-- The elements of a slice at A lie in w: each its cells. -/
def Rd (w : World) (A : Option Addr) (s : Nat) (xs : List (List Value)) : Prop :=
  0 < xs.length → ∃ b o, A = some ⟨b, o, none⟩ ∧ ∀ j c, xs[j]? = some c → c.length = s ∧ ∀ i u, c[i]? = some u → w.cell? ⟨b, o + j * s + i, none⟩ = some u
def eptr (A : Option Addr) (s : Nat) (i : Int) : Addr := match A with | some a => ⟨a.block, a.off + i.toNat * s, none⟩ | none => ⟨0, 0, none⟩
theorem add_mk (b o k : Nat) : (⟨b, o, none⟩ : Addr).add k = ⟨b, o + k, none⟩ := by unfold Addr.add; split <;> simp_all
theorem Rd.below {w w' : World} {A : Option Addr} {s : Nat} {xs : List (List Value)} (hs : 0 < s) (h : Rd w A s xs) (hb : Below w.heap.size w w') : Rd w' A s xs := fun hn => by
  obtain ⟨b, o, rfl, hc⟩ := h hn
  refine ⟨b, o, rfl, fun j c hj => ⟨(hc j c hj).1, fun i u hu => ?_⟩⟩
  have h1 := (hc j c hj).2 i u hu
  exact (hb.cell (p := ⟨b, o + j * s + i, none⟩) (World.block_lt_of_cell? w _ h1)).trans h1
theorem flatten_get {xs : List (List Value)} {s : Nat} (hs : ∀ c ∈ xs, c.length = s) : ∀ {j : Nat} {c : List Value}, xs[j]? = some c → ∀ i u, c[i]? = some u → xs.flatten[j * s + i]? = some u := by
  induction xs with
  | nil => intro j c h; simp at h
  | cons x xs ih =>
    intro j c hj i u hu
    have hx : x.length = s := hs x List.mem_cons_self
    cases j with
    | zero =>
      have : x = c := by simpa using hj
      subst this
      have hi : i < x.length := (List.getElem?_eq_some_iff.1 hu).1
      simp only [List.flatten_cons, Nat.zero_mul, Nat.zero_add]
      rw [List.getElem?_append_left hi]
      exact hu
    | succ j =>
      have hj' : xs[j]? = some c := by simpa using hj
      have := ih (fun c hc => hs c (List.mem_cons_of_mem _ hc)) hj' i u hu
      simp only [List.flatten_cons]
      rw [List.getElem?_append_right (by rw [hx, Nat.succ_mul]; omega), hx]
      rw [show (j + 1) * s + i - s = j * s + i by rw [Nat.succ_mul]; omega]
      exact this
theorem flatten_length {xs : List (List Value)} {s : Nat} (hs : ∀ c ∈ xs, c.length = s) : xs.flatten.length = xs.length * s := by
  induction xs with
  | nil => simp
  | cons x xs ih => simp [ih (fun c hc => hs c (List.mem_cons_of_mem _ hc)), hs x List.mem_cons_self, Nat.succ_mul, Nat.add_comm]
/-- What is owned can be read: its form, its elements. -/
theorem row_form {w : World} {v : Value} {e : TypeId} {s : Nat} {xs : List (List Value)} (h : Atom.ok (.row v e s xs) w) : ∃ A c, v = .slice A xs.length c ∧ xs.length ≤ c ∧ xs.length ≤ maxLen := by
  rcases h.1.2 with ⟨rfl, h0⟩ | ⟨g, cap, cur, rfl, _, _, hn, hm, _⟩
  · exact ⟨none, 0, by rw [h0], by omega, by rw [h0]; simp [maxLen]⟩
  · exact ⟨_, cap, rfl, hn, by omega⟩
theorem row_rd {w : World} {A : Option Addr} {n c : Nat} {e : TypeId} {s : Nat} {xs : List (List Value)} (h : Atom.ok (.row (.slice A n c) e s xs) w) : Rd w A s xs := by
  intro hn
  obtain ⟨h1, h2⟩ := h
  rcases h1.2 with ⟨he, h0⟩ | ⟨g, cap, cur, he, _⟩
  · omega
  · injection he with e1 e2 e3
    subst e1 e2 e3
    refine ⟨g, 0, rfl, fun j c hj => ⟨h2 c (List.mem_of_getElem? hj), fun i u hu => ?_⟩⟩
    have := h1.cells (g := g) rfl (j * s + i) u (flatten_get h2 hj i u hu)
    rw [add_mk] at this
    simpa using this
theorem HeapOK.row {w0 w : World} {F0 : Nat → Prop} {As : List Atom} (h : HeapOK w0 F0 As w) {v : Value} {e : TypeId} {s : Nat} {xs : List (List Value)} (hA : Has As (.row v e s xs)) : Atom.ok (.row v e s xs) w := h.ok _ hA.mem
theorem Rd.take {w : World} {A : Option Addr} {s : Nat} {xs : List (List Value)} (h : Rd w A s xs) (n : Nat) : Rd w A s (xs.take n) := fun hn => by
  obtain ⟨b, o, rfl, hc⟩ := h (by simp at hn; omega)
  refine ⟨b, o, rfl, fun j c hj => hc j c ?_⟩
  rw [List.getElem?_take] at hj
  split at hj
  · exact hj
  · cases hj
theorem Rd.drop {w : World} {A : Option Addr} {s : Nat} {xs : List (List Value)} (h : Rd w A s xs) (n c : Nat) (hc : xs.length ≤ c) : Rd w (if c = n then A else A.map (·.add (n * s))) s (xs.drop n) := fun hn => by
  obtain ⟨b, o, rfl, hcell⟩ := h (by simp at hn; omega)
  simp at hn
  rw [if_neg (by omega)]
  refine ⟨b, o + n * s, by simp [add_mk], fun j c hj => ?_⟩
  rw [List.getElem?_drop] at hj
  obtain ⟨h1, h2⟩ := hcell _ c hj
  refine ⟨h1, fun i u hu => ?_⟩
  have := h2 i u hu
  rw [show o + n * s + j * s + i = o + (n + j) * s + i by rw [Nat.add_mul]; omega]
  exact this
end Go.Eng

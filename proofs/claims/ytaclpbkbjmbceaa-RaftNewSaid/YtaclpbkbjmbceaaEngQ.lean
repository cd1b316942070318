/-
  A REGION THAT DRAWS ITS ORDER, some of whose operations change the world: if those that change it ('pinned') are ordered among themselves by the region's own edges, and each of the others yields one value in every world of a class, then the walk of one order serves every order.
-/
import Derived.Still
import Derived.Tactics
namespace Go.Eng

/-- Does an operation change the world, or call? -/
def pinOp : Op → Bool
  | .move _ | .assign _ | .pick .. | .load .. | .nilCheck _ | .binOp .. | .unOp .. | .fieldAddr .. | .field .. | .indexAddr .. | .index .. | .slice .. | .extract .. | .build .. | .makeFunc .. | .convert .. => false
  | .call c => match c.callee with | .builtin .len | .builtin .cap | .builtin .min | .builtin .max => false | _ => true
  | _ => true
def pinAt (ops : Array Oper) (ex : List Nat) (i : Nat) : Bool := match ops[i]? with | some o => pinOp o.op || ex.contains i | none => false

/-- Of each operation, as a number's bits: which must have come up before it. -/
def clsStep (acc : Array Nat) (o : Oper) : Nat := o.after.toList.foldl (fun s e => if Region.binds .any e then s ||| 2 ^ e.on ||| acc.getD e.on 0 else s) 0
def cls : List Oper → Array Nat → Array Nat
  | [], acc => acc
  | o :: r, acc => cls r (acc.push (clsStep acc o))

theorem foldl_bits {acc : Array Nat} {i : Nat} : ∀ (l : List Edge) (s : Nat), (l.foldl (fun s e => if Region.binds .any e then s ||| 2 ^ e.on ||| acc.getD e.on 0 else s) s).testBit i = true →
    s.testBit i = true ∨ ∃ e ∈ l, Region.binds .any e = true ∧ (e.on = i ∨ (acc.getD e.on 0).testBit i = true)
  | [], s, h => .inl h
  | e :: l, s, h => by
    simp only [List.foldl_cons] at h
    rcases foldl_bits l _ h with h | ⟨e', he', hb, hr⟩
    · by_cases hb : Region.binds .any e = true
      · rw [if_pos hb] at h
        simp only [Nat.testBit_or, Nat.testBit_two_pow, Bool.or_eq_true, decide_eq_true_eq] at h
        rcases h with (h | h) | h
        · exact .inl h
        · exact .inr ⟨e, by simp, hb, .inl h⟩
        · exact .inr ⟨e, by simp, hb, .inr h⟩
      · rw [if_neg hb] at h; exact .inl h
    · exact .inr ⟨e', by simp [he'], hb, hr⟩

def ClsInv (ops : Array Oper) (A : Array Nat) : Prop := ∀ j m, A[j]? = some m → ∀ i, m.testBit i = true →
  ∃ o e, ops[j]? = some o ∧ e ∈ o.after ∧ Region.binds .any e = true ∧ (e.on = i ∨ (e.on < j ∧ (A.getD e.on 0).testBit i = true))

theorem cls_inv {ops : Array Oper} : ∀ (l : List Oper) (acc : Array Nat), (∀ j, l[j]? = ops[acc.size + j]?) → ClsInv ops acc → ClsInv ops (cls l acc)
  | [], _, _, h => h
  | o :: l, acc, hl, h => by
    refine cls_inv l _ (fun j => by have := hl (j + 1); simpa [Nat.add_assoc, Nat.add_comm 1 j] using this) ?_
    intro j m hm i hi
    have h0 : ops[acc.size]? = some o := by simpa using (hl 0).symm
    rw [Array.getElem?_push] at hm
    split at hm
    · rename_i hj
      subst hj
      injection hm with hm
      subst hm
      rcases foldl_bits _ _ hi with h1 | ⟨e, he, hb, h1⟩
      · simp at h1
      · refine ⟨o, e, h0, Array.mem_toList_iff.1 he, hb, h1.imp id fun h2 => ?_⟩
        have hlt : e.on < acc.size := by
          rcases Nat.lt_or_ge e.on acc.size with h3 | h3
          · exact h3
          · simp [Array.getElem?_eq_none h3] at h2
        refine ⟨hlt, ?_⟩
        simpa [Array.getElem?_push, Nat.ne_of_lt hlt] using h2
    · obtain ⟨o', e, h1, h2, h3, h4⟩ := h j m hm i hi
      refine ⟨o', e, h1, h2, h3, h4.imp id fun ⟨h5, h6⟩ => ⟨h5, ?_⟩⟩
      have hj : j < acc.size := (Array.getElem?_eq_some_iff.1 hm).1
      simpa [Array.getElem?_push, Nat.ne_of_lt (Nat.lt_trans h5 hj)] using h6

def inCl (A : Array Nat) (j i : Nat) : Bool := (A.getD j 0).testBit i

section
variable {P : Program} {ops : Array Oper} {A : Array Nat} {ex : List Nat} {C : World → Prop}

/-- What is listed bears what it waits for. -/
def Closed (ops : Array Oper) (listed : Array Bool) : Prop := ∀ j o, ops[j]? = some o → listed.getD j false = true → ∀ e ∈ o.after, Region.binds .any e = true → listed.getD e.on false = true

theorem getD_tf {listed : Array Bool} {i : Nat} (h : listed.getD i true = false) : listed.getD i false = false := by
  rcases Nat.lt_or_ge i listed.size with h' | h'
  · simp [h'] at h ⊢; exact h
  · simp [Array.getElem?_eq_none h'] at h

theorem Closed.mem (hA : ClsInv ops A) {listed : Array Bool} (hc : Closed ops listed) : ∀ (j i : Nat), inCl A j i = true → (∀ o, ops[j]? = some o → ∀ e ∈ o.after, Region.binds .any e = true → listed.getD e.on false = true) → listed.getD i false = true := by
  intro j
  induction j using Nat.strongRecOn with
  | _ j ih =>
    intro i hi hr
    unfold inCl at hi
    cases hm : A[j]? with
    | none => simp [hm] at hi
    | some m =>
      have hi' : m.testBit i = true := by simpa [hm] using hi
      obtain ⟨o, e, h1, h2, h3, h4⟩ := hA j m hm i hi'
      have h5 := hr o h1 e h2 h3
      rcases h4 with rfl | ⟨hlt, h6⟩
      · exact h5
      · exact ih e.on hlt i h6 fun o' ho' e' he' hb' => hc e.on o' ho' h5 e' he' hb'

theorem Closed.ready (hA : ClsInv ops A) {listed : Array Bool} (hc : Closed ops listed) {j i : Nat} (hj : j ∈ Region.ready .any ops listed) (hi : inCl A j i = true) : listed.getD i false = true := by
  obtain ⟨_, o, ho, hall⟩ := mem_ready.1 hj
  exact hc.mem hA j i hi fun o' ho' e he hb => by rw [ho] at ho'; injection ho' with ho'; subst ho'; exact hall e he hb

theorem Closed.set {listed : Array Bool} (hc : Closed ops listed) {i : Nat} (hi : i ∈ Region.ready .any ops listed) : Closed ops (listed.setIfInBounds i true) := by
  obtain ⟨_, oi, hoi, hall⟩ := mem_ready.1 hi
  intro j o hj hl e he hb
  by_cases hij : i = j
  · subst hij
    rw [hoi] at hj; injection hj with hj; subst hj
    exact getD_set_true (hall e he hb)
  · rw [getD_set_ne false hij] at hl
    exact getD_set_true (hc j o hj hl e he hb)

/-- A pinned operation: a value, nothing, or a call that returns. -/
def wpR (P : Program) (o : Oper) (a : Act) (w : World) (K : Act → World → Prop) : Prop :=
  match (execOp a.eval o).run P w with
  | .ok (.value v) w' => K (a.put o.dst v) w'
  | .ok .skip w' => K (a.put o.dst undef) w'
  | .ok (.enter f args) w' => Calls P f args w' fun e w'' => ∃ v, e = .returned v ∧ K (a.put o.dst v) w''
  | _ => False

theorem wpR_mono {o : Oper} {a : Act} {w : World} {K K' : Act → World → Prop} (h : ∀ a w, K a w → K' a w) (hh : wpR P o a w K) : wpR P o a w K' := by
  unfold wpR at *
  generalize (execOp a.eval o).run P w = r at *
  cases r with
  | ok n w' =>
    cases n <;> simp only at hh ⊢
    case enter f args => exact hh.mono fun e w'' ⟨v, he, hk⟩ => ⟨v, he, h _ _ hk⟩
    all_goals exact h _ _ hh
  | halt x w' => simp only at hh

theorem wpR_out {o : Oper} {a : Act} {w : World} {K : Act → World → Prop} (hh : wpR P o a w K) : ∃ v w', K (a.put o.dst v) w' := by
  unfold wpR at hh
  generalize (execOp a.eval o).run P w = r at *
  cases r with
  | ok n w' =>
    cases n <;> simp only at hh
    case value v => exact ⟨v, w', hh⟩
    case skip => exact ⟨undef, w', hh⟩
    case enter f args =>
      obtain ⟨e, w'', fr, ⟨v, _, hk⟩, _⟩ := hh []
      exact ⟨v, w'', hk⟩
  | halt x w' => simp only at hh

/-- Every outcome is a value put. -/
theorem wpR_put {o : Oper} {a : Act} {w : World} {K : Act → World → Prop} (hh : wpR P o a w K) : wpR P o a w (fun a' w' => ∃ v, a' = a.put o.dst v ∧ K a' w') := by
  unfold wpR at *
  generalize (execOp a.eval o).run P w = r at *
  cases r with
  | ok n w' =>
    cases n <;> simp only at hh ⊢
    case enter f args => exact hh.mono fun e w'' ⟨v, he, hk⟩ => ⟨v, he, v, rfl, hk⟩
    all_goals exact ⟨_, rfl, hh⟩
  | halt x w' => simp only at hh

theorem wp_of_wpR {o : Oper} {a : Act} {w : World} {K : Act → World → Prop} {Q : Exit → Act → World → Prop} (hh : wpR P o a w K) : o.wp P a w K Q := by
  unfold wpR at hh
  unfold Oper.wp
  generalize (execOp a.eval o).run P w = r at *
  cases r with
  | ok n w' =>
    cases n <;> simp only at hh <;> simp only [Oper.upon]
    case value v => exact hh
    case skip => exact hh
    case enter f args => exact hh.mono fun e w'' ⟨v, he, hk⟩ => by subst he; exact hk
  | halt x w' => simp only at hh

/-- A free operation: one value, in every world of the class, which it leaves alone. -/
def FreeIn (P : Program) (ops : Array Oper) (C : World → Prop) (o : Oper) (v : Value) (a : Act) : Prop :=
  (Region.wanted o (yielded ops a.tmps) = true ∧ ∀ w, C w → (execOp a.eval o).run P w = .ok (.value v) w) ∨
  (Region.wanted o (yielded ops a.tmps) = false ∧ v = undef)

theorem FreeIn.of_same {o : Oper} {v : Value} {a a' : Act} (hy : FreeIn P ops C o v a) (he : execOp a'.eval o = execOp a.eval o)
    (hw : Region.wanted o (yielded ops a'.tmps) = Region.wanted o (yielded ops a.tmps)) : FreeIn P ops C o v a' := by
  unfold FreeIn at *
  rw [he, hw]
  exact hy

theorem FreeIn.one {o : Oper} {v u : Value} {a : Act} {w : World} (hw : C w) (h : FreeIn P ops C o v a) (h' : FreeIn P ops C o u a) : v = u := by
  rcases h with ⟨h1, h2⟩ | ⟨h1, h2⟩ <;> rcases h' with ⟨h3, h4⟩ | ⟨h3, h4⟩
  · have := (h2 w hw).symm.trans (h4 w hw)
    injection this with this _
    injection this
  · rw [h1] at h3; cases h3
  · rw [h1] at h3; cases h3
  · rw [h2, h4]

/-- Is there a free operation that need not come up before operation i? -/
def late (ops : Array Oper) (A : Array Nat) (ex : List Nat) (i : Nat) : Bool := (List.range ops.size).any fun j => !pinAt ops ex j && !inCl A i j

def mOp (P : Program) (ops : Array Oper) (A : Array Nat) (ex : List Nat) (C : World → Prop) (i : Nat) (K : Act → World → Prop) (a : Act) (w : World) : Prop :=
  match ops[i]? with
  | none => K a w
  | some o => if pinAt ops ex i then (if Region.wanted o (yielded ops a.tmps) then wpR P o a w (fun a' w' => (late ops A ex i = true → C w') ∧ K a' w') else K (a.put o.dst undef) w)
    else ∃ v, FreeIn P ops C o v a ∧ K (a.put o.dst v) w

theorem mOp_mono {i : Nat} {a : Act} {w : World} {K K' : Act → World → Prop} (h : ∀ a w, K a w → K' a w) (hh : mOp P ops A ex C i K a w) : mOp P ops A ex C i K' a w := by
  unfold mOp at *
  cases ho : ops[i]? with
  | none => simp only [ho] at hh ⊢; exact h _ _ hh
  | some o =>
    simp only [ho] at hh ⊢
    split
    · rename_i hp
      simp only [hp, if_true] at hh
      split
      · rename_i hw; simp only [hw, if_true] at hh; exact wpR_mono (fun a w ⟨h1, h2⟩ => ⟨h1, h _ _ h2⟩) hh
      · rename_i hw; simp only [hw] at hh; exact h _ _ hh
    · rename_i hp
      simp only [hp] at hh
      obtain ⟨v, h1, h2⟩ := hh
      exact ⟨v, h1, h _ _ h2⟩

def wpAnyM (P : Program) (ops : Array Oper) (A : Array Nat) (ex : List Nat) (C : World → Prop) (Q : Act → World → Prop) : Nat → Array Bool → Act → World → Prop
  | 0, listed, a, w => Region.ready .any ops listed = [] ∧ Q a w
  | fuel + 1, listed, a, w =>
    (Region.ready .any ops listed = [] → Q a w) ∧ ∀ i ∈ Region.ready .any ops listed, mOp P ops A ex C i (wpAnyM P ops A ex C Q fuel (listed.setIfInBounds i true)) a w

/-- The class holds where a free operation is still to come. -/
def Needs (ops : Array Oper) (ex : List Nat) (C : World → Prop) (listed : Array Bool) (w : World) : Prop := ∀ j, j < ops.size → pinAt ops ex j = false → listed.getD j true = false → C w

theorem late_of {i j : Nat} (hj : j < ops.size) (hp : pinAt ops ex j = false) (hc : inCl A i j = false) : late ops A ex i = true := by
  unfold late
  rw [List.any_eq_true]
  exact ⟨j, List.mem_range.2 hj, by simp [hp, hc]⟩

theorem getD_set_self {listed : Array Bool} {i : Nat} : (listed.setIfInBounds i true).getD i true = true := by
  rcases Nat.lt_or_ge i listed.size with h | h
  · simp [h]
  · simp [h]

theorem unlisted_of_set {listed : Array Bool} {i j : Nat} (h : (listed.setIfInBounds i true).getD j true = false) : i ≠ j ∧ listed.getD j true = false := by
  by_cases e : i = j
  · subst e; rw [getD_set_self] at h; cases h
  · exact ⟨e, by rwa [getD_set_ne true e] at h⟩

theorem wpAny_of_M {Q : Act → World → Prop} {Q' : Exit → Act → World → Prop} (hA : ClsInv ops A) (hQ : ∀ a w, Q a w → Q' .normal a w) : ∀ (fuel : Nat) (listed : Array Bool) (a : Act) (w : World),
    Closed ops listed → Needs ops ex C listed w → wpAnyM P ops A ex C Q fuel listed a w → wpAny P .any ops Q' fuel listed a w
  | 0, _, _, _, _, _, h => ⟨h.1, hQ _ _ h.2⟩
  | fuel + 1, listed, a, w, hc, hn, h => by
    refine ⟨fun h0 => hQ _ _ (h.1 h0), fun i hi => ?_⟩
    have h1 := h.2 i hi
    have ih := fun a' w' hn' => wpAny_of_M hA hQ fuel (listed.setIfInBounds i true) a' w' (hc.set hi) hn'
    unfold mOp at h1
    unfold wpOp
    cases ho : ops[i]? with
    | none =>
      obtain ⟨_, o, ho', _⟩ := mem_ready.1 hi
      rw [ho] at ho'; cases ho'
    | some o =>
      simp only [ho] at h1 ⊢
      have hsame : ∀ u, Needs ops ex C (listed.setIfInBounds i true) u → True := fun _ _ => trivial
      by_cases hp : pinAt ops ex i = true
      · simp only [hp, if_true] at h1
        split
        · rename_i hw
          simp only [hw, if_true] at h1
          refine .inl (wp_of_wpR (wpR_mono (fun a' w' ⟨h2, h3⟩ => ih a' w' (fun j hj hpj hl => ?_) h3) h1))
          obtain ⟨hne, hl'⟩ := unlisted_of_set hl
          refine h2 (late_of hj hpj ?_)
          cases hcl : inCl A i j with
          | false => rfl
          | true => have := hc.ready hA hi hcl; rw [getD_tf hl'] at this; cases this
        · rename_i hw
          simp only [hw] at h1
          exact ih _ _ (fun j hj hpj hl => hn j hj hpj (unlisted_of_set hl).2) h1
      · simp only [hp] at h1
        obtain ⟨v, hf, h2⟩ := h1
        have hCw : C w := hn i (Array.getElem?_eq_some_iff.1 ho).1 (by simpa using hp) (mem_ready.1 hi).1
        have h3 := ih _ _ (fun j hj hpj hl => hn j hj hpj (unlisted_of_set hl).2) h2
        rcases hf with ⟨hw, hr⟩ | ⟨hw, rfl⟩
        · simp only [hw, if_true]
          refine .inl ?_
          unfold Oper.wp
          rw [hr w hCw]
          exact h3
        · simp only [hw]
          exact h3

/-- What is asked of the operations that have not come up: of two pinned ones the later waits for the earlier; of any two the later waits, or they are apart. -/
def okPair (ops : Array Oper) (A : Array Nat) (ex : List Nat) (i j : Nat) : Bool :=
  (!(pinAt ops ex i && pinAt ops ex j) || inCl A j i) && (inCl A j i || match ops[i]?, ops[j]? with | some oi, some oj => oi.apart ops oj | _, _ => false)

theorem not_ready (hA : ClsInv ops A) {listed : Array Bool} (hc : Closed ops listed) {i j : Nat} (hi : listed.getD i true = false) (hj : j ∈ Region.ready .any ops listed) : inCl A j i = false := by
  cases h : inCl A j i with
  | false => rfl
  | true => have := hc.ready hA hj h; rw [getD_tf hi] at this; cases this

/-- An operation may be taken first. -/
theorem wpAnyM_first {Q : Act → World → Prop} (hA : ClsInv ops A) (hs : Region.noSelect ops = true) {i : Nat} {oi : Oper} (hi : ops[i]? = some oi) : ∀ (fuel : Nat) (listed : Array Bool) (a : Act) (w : World),
    Closed ops listed → Needs ops ex C listed w → i ∈ Region.ready .any ops listed →
    (∀ j, j < ops.size → j ≠ i → listed.getD j true = false → okPair ops A ex i j = true) →
    mOp P ops A ex C i (wpAnyM P ops A ex C Q fuel (listed.setIfInBounds i true)) a w → wpAnyM P ops A ex C Q (fuel + 1) listed a w := by
  intro fuel
  have sel := Region.noSelect_spec hs
  induction fuel with
  | zero =>
    intro listed a w hc hn hr hfree H
    refine ⟨fun h => (by rw [h] at hr; cases hr), fun j hj => ?_⟩
    by_cases hji : j = i
    · subst hji; exact H
    · exfalso
      have h1 := ready_mono hj hji
      have h2 : Region.ready .any ops (listed.setIfInBounds i true) = [] := by
        unfold mOp at H
        simp only [hi] at H
        split at H
        · split at H
          · obtain ⟨v, w', _, h3⟩ := wpR_out H; exact h3.1
          · exact H.1
        · obtain ⟨v, _, h3⟩ := H; exact h3.1
      rw [h2] at h1
      cases h1
  | succ fuel ih =>
    intro listed a w hc hn hr hfree H
    refine ⟨fun h => (by rw [h] at hr; cases hr), fun j hj => ?_⟩
    by_cases hji : j = i
    · subst hji; exact H
    · obtain ⟨hjun, oj, hoj, hall⟩ := mem_ready.1 hj
      have hjlt : j < ops.size := (Array.getElem?_eq_some_iff.1 hoj).1
      have hiun := (mem_ready.1 hr).1
      have hcl := not_ready hA hc hiun hj
      have hp := hfree j hjlt hji hjun
      unfold okPair at hp
      simp only [hcl, hi, hoj, Bool.or_false, Bool.false_or, Bool.and_eq_true, Bool.not_eq_true'] at hp
      obtain ⟨hpin, hap⟩ := hp
      obtain ⟨h1, h2, h3⟩ := Oper.apart_spec hap
      have seli := fun cs b => sel i oi cs b hi
      have selj := fun cs b => sel j oj cs b hoj
      have hr' : i ∈ Region.ready .any ops (listed.setIfInBounds j true) := ready_mono hr (Ne.symm hji)
      have hfree' : ∀ k, k < ops.size → k ≠ i → (listed.setIfInBounds j true).getD k true = false → okPair ops A ex i k = true :=
        fun k hk hki hun => hfree k hk hki (unlisted_of_set hun).2
      have hcomm : (listed.setIfInBounds i true).setIfInBounds j true = (listed.setIfInBounds j true).setIfInBounds i true := Array.setIfInBounds_comm _ _ (Ne.symm hji)
      have hri : j ∈ Region.ready .any ops (listed.setIfInBounds i true) := ready_mono hj hji
      have hc' := hc.set hj
      -- what j yields, unlooked at by i, and the other way round
      have exi : ∀ (a : Act) u, execOp (a.put oj.dst u).eval oi = execOp a.eval oi := fun a u => execOp_put oi seli a oj.dst u h3
      have exj : ∀ (a : Act) u, execOp (a.put oi.dst u).eval oj = execOp a.eval oj := fun a u => execOp_put oj selj a oi.dst u h1
      have wai : ∀ (a : Act) u, Region.wanted oi (yielded ops (a.put oj.dst u).tmps) = Region.wanted oi (yielded ops a.tmps) := fun a u => wanted_put oi a oj.dst u h3
      have waj : ∀ (a : Act) u, Region.wanted oj (yielded ops (a.put oi.dst u).tmps) = Region.wanted oj (yielded ops a.tmps) := fun a u => wanted_put oj a oi.dst u h1
      have comm : ∀ (a : Act) u v, (a.put oi.dst u).put oj.dst v = (a.put oj.dst v).put oi.dst u := fun a u v => Act.put_comm a u v h2
      unfold mOp at H
      simp only [hi] at H
      by_cases hpi : pinAt ops ex i = true
      · -- i is pinned: j is free
        have hpj : pinAt ops ex j = false := by simpa [hpi] using hpin
        have hCw : C w := hn j hjlt hpj hjun
        simp only [hpi, if_true] at H
        unfold mOp
        simp only [hoj, hpj, if_false, Bool.false_eq_true]
        -- the free j's value, out of any outcome of i
        have jout : ∀ u w', wpAnyM P ops A ex C Q (fuel + 1) (listed.setIfInBounds i true) (a.put oi.dst u) w' →
            ∃ v, FreeIn P ops C oj v a ∧ wpAnyM P ops A ex C Q fuel ((listed.setIfInBounds i true).setIfInBounds j true) ((a.put oi.dst u).put oj.dst v) w' := by
          intro u w' h4
          have h5 := h4.2 j hri
          unfold mOp at h5
          simp only [hoj, hpj, if_false, Bool.false_eq_true] at h5
          obtain ⟨v, h6, h7⟩ := h5
          exact ⟨v, h6.of_same (exj a u).symm (waj a u).symm, h7⟩
        split at H
        · rename_i hw
          have hput := wpR_put H
          obtain ⟨u0, w0, ⟨u, _, _, h4⟩⟩ := wpR_out hput
          obtain ⟨v, hv, _⟩ := jout u0 w0 h4
          refine ⟨v, hv, ih _ _ _ hc' (fun k hk hpk hun => hn k hk hpk (unlisted_of_set hun).2) hr' hfree' ?_⟩
          unfold mOp
          simp only [hi, hpi, if_true, wai, hw]
          have key : ∀ (a' : Act) (w' : World), (∃ v, a' = a.put oi.dst v ∧ (late ops A ex i = true → C w') ∧ wpAnyM P ops A ex C Q (fuel + 1) (listed.setIfInBounds i true) a' w') →
              (late ops A ex i = true → C w') ∧ wpAnyM P ops A ex C Q fuel ((listed.setIfInBounds j true).setIfInBounds i true) (a'.put oj.dst v) w' := by
            rintro a' w' ⟨u, rfl, hl, h4⟩
            obtain ⟨v', hv', h5⟩ := jout u w' h4
            have := FreeIn.one hCw hv hv'
            subst this
            exact ⟨hl, by rw [← hcomm]; exact h5⟩
          have H2 : wpR P oi (a.put oj.dst v) w (fun a' w' => (late ops A ex i = true → C w') ∧ wpAnyM P ops A ex C Q fuel ((listed.setIfInBounds j true).setIfInBounds i true) a' w') := by
            unfold wpR at hput ⊢
            rw [exi a v]
            generalize (execOp a.eval oi).run P w = r at *
            cases r with
            | ok n w' =>
              cases n <;> simp only at hput ⊢
              case value u => rw [← comm]; exact key _ _ hput
              case skip => rw [← comm]; exact key _ _ hput
              case enter f args => exact hput.mono fun e w'' ⟨u, he, hk⟩ => ⟨u, he, by rw [← comm]; exact key _ _ hk⟩
            | halt x w' => simp only at hput
          exact H2
        · rename_i hw
          obtain ⟨v, hv, h5⟩ := jout undef w H
          refine ⟨v, hv, ih _ _ _ hc' (fun k hk hpk hun => hn k hk hpk (unlisted_of_set hun).2) hr' hfree' ?_⟩
          unfold mOp
          simp only [hi, hpi, if_true, wai, hw, if_false, Bool.false_eq_true]
          rw [← comm, ← hcomm]
          exact h5
      · -- i is free
        have hpi' : pinAt ops ex i = false := by simpa using hpi
        have hilt : i < ops.size := (Array.getElem?_eq_some_iff.1 hi).1
        simp only [hpi', if_false, Bool.false_eq_true] at H
        obtain ⟨v, hv, h4⟩ := H
        have h5 := h4.2 j hri
        have keep : ∀ u, FreeIn P ops C oi v (a.put oj.dst u) := fun u => hv.of_same (exi a u) (wai a u)
        unfold mOp at h5 ⊢
        simp only [hoj, waj] at h5 ⊢
        have back : ∀ u w', Needs ops ex C (listed.setIfInBounds j true) w' → wpAnyM P ops A ex C Q fuel ((listed.setIfInBounds i true).setIfInBounds j true) ((a.put oi.dst v).put oj.dst u) w' →
            wpAnyM P ops A ex C Q (fuel + 1) (listed.setIfInBounds j true) (a.put oj.dst u) w' := by
          intro u w' hn' h6
          refine ih _ _ _ hc' hn' hr' hfree' ?_
          unfold mOp
          simp only [hi, hpi', if_false, Bool.false_eq_true]
          exact ⟨v, keep u, by rw [← comm, ← hcomm]; exact h6⟩
        by_cases hpj : pinAt ops ex j = true
        · simp only [hpj, if_true] at h5 ⊢
          have hlate : late ops A ex j = true := late_of hilt hpi' hcl
          split
          · rename_i hw
            simp only [hw, if_true] at h5
            unfold wpR at h5 ⊢
            rw [exj a v] at h5
            generalize (execOp a.eval oj).run P w = r at *
            cases r with
            | ok n w' =>
              cases n <;> simp only at h5 ⊢
              case value u => exact ⟨h5.1, back _ _ (fun _ _ _ _ => h5.1 hlate) h5.2⟩
              case skip => exact ⟨h5.1, back _ _ (fun _ _ _ _ => h5.1 hlate) h5.2⟩
              case enter f args => exact h5.mono fun e w'' ⟨u, he, hk⟩ => ⟨u, he, hk.1, back _ _ (fun _ _ _ _ => hk.1 hlate) hk.2⟩
            | halt x w' => simp only at h5
          · rename_i hw
            simp only [hw] at h5
            exact back _ _ (fun k hk hpk hun => hn k hk hpk (unlisted_of_set hun).2) h5
        · have hpj' : pinAt ops ex j = false := by simpa using hpj
          simp only [hpj', if_false, Bool.false_eq_true] at h5 ⊢
          obtain ⟨u, hu, h6⟩ := h5
          exact ⟨u, hu.of_same (exj a v).symm (waj a v).symm, back _ _ (fun k hk hpk hun => hn k hk hpk (unlisted_of_set hun).2) h6⟩

/-- One order, walked. -/
def wpMix (P : Program) (ops : Array Oper) (A : Array Nat) (ex : List Nat) (C : World → Prop) (Q : Act → World → Prop) : List Nat → Act → World → Prop
  | [], a, w => Q a w
  | i :: r, a, w => mOp P ops A ex C i (wpMix P ops A ex C Q r) a w

def chk (ops : Array Oper) (A : Array Nat) (ex : List Nat) : List Nat → List Nat → Bool
  | seen, [] => (List.range ops.size).all fun j => seen.contains j
  | seen, i :: r => (match ops[i]? with | some o => o.after.all fun e => !Region.binds .any e || seen.contains e.on | none => false) && !seen.contains i && r.all (okPair ops A ex i) && chk ops A ex (i :: seen) r

theorem wpAnyM_of_mix {Q : Act → World → Prop} (hA : ClsInv ops A) (hs : Region.noSelect ops = true) : ∀ (ord seen : List Nat) (listed : Array Bool) (a : Act) (w : World),
    listed.size = ops.size → (∀ k, seen.contains k = true → k < ops.size) → (∀ k, k < ops.size → listed.getD k false = seen.contains k) → (∀ k, k < ops.size → seen.contains k = false → k ∈ ord) → Closed ops listed → Needs ops ex C listed w →
    chk ops A ex seen ord = true → wpMix P ops A ex C Q ord a w → wpAnyM P ops A ex C Q ord.length listed a w
  | [], seen, listed, a, w, hsz, _, hl, _, _, _, hchk, h => by
    refine ⟨?_, h⟩
    cases hr : Region.ready .any ops listed with
    | nil => rfl
    | cons j r =>
      exfalso
      have hj : j ∈ Region.ready .any ops listed := by rw [hr]; simp
      obtain ⟨h0, o, ho, _⟩ := mem_ready.1 hj
      have hjlt := (Array.getElem?_eq_some_iff.1 ho).1
      have h1 := hl j hjlt
      simp only [chk, List.all_eq_true, List.mem_range] at hchk
      rw [hchk j hjlt, getD_tf h0] at h1
      cases h1
  | i :: r, seen, listed, a, w, hsz, hseen, hl, hmem, hc, hn, hchk, h => by
    simp only [chk, Bool.and_eq_true] at hchk
    obtain ⟨⟨⟨h1, h2⟩, h3⟩, h4⟩ := hchk
    cases ho : ops[i]? with
    | none => simp [ho] at h1
    | some oi =>
      have hilt := (Array.getElem?_eq_some_iff.1 ho).1
      simp only [ho] at h1
      have hun : listed.getD i true = false := by
        have := hl i hilt
        rw [show seen.contains i = false by simpa using h2] at this
        have hlt : i < listed.size := by omega
        simp [hlt] at this ⊢
        exact this
      have hready : i ∈ Region.ready .any ops listed := by
        rw [mem_ready]
        refine ⟨hun, oi, ho, fun e he hb => ?_⟩
        have h5 := Array.all_eq_true_iff_forall_mem.1 h1 e he
        simp only [hb, Bool.not_true, Bool.false_or] at h5
        rw [hl _ (hseen _ h5)]; exact h5
      have hfree : ∀ j, j < ops.size → j ≠ i → listed.getD j true = false → okPair ops A ex i j = true := by
        intro j hj hne hju
        have hseen : seen.contains j = false := by
          have := hl j hj
          rw [getD_tf hju] at this
          exact this.symm
        have := hmem j hj hseen
        rcases List.mem_cons.1 this with h5 | h5
        · exact absurd h5 hne
        · exact List.all_eq_true.1 h3 j h5
      refine wpAnyM_first hA hs ho r.length listed a w hc hn hready hfree ?_
      have hsize' : (listed.setIfInBounds i true).size = ops.size := by simpa using hsz
      have hseen' : ∀ k, (i :: seen).contains k = true → k < ops.size := by
        intro k hk
        simp only [List.contains_cons, Bool.or_eq_true, beq_iff_eq] at hk
        rcases hk with rfl | hk
        · exact hilt
        · exact hseen k hk
      have hl' : ∀ k, k < ops.size → (listed.setIfInBounds i true).getD k false = (i :: seen).contains k := by
        intro k hk
        by_cases hik : i = k
        · subst hik
          have hlt : i < listed.size := by omega
          simp [hlt]
        · rw [getD_set_ne false hik, hl k hk]
          have : (k == i) = false := by simpa using Ne.symm hik
          simp only [List.contains_cons, this, Bool.false_or]
      have hmem' : ∀ k, k < ops.size → (i :: seen).contains k = false → k ∈ r := by
        intro k hk hs'
        simp only [List.contains_cons, Bool.or_eq_false_iff] at hs'
        rcases List.mem_cons.1 (hmem k hk hs'.2) with h5 | h5
        · subst h5; simp at hs'
        · exact h5
      have go := fun a' w' hn' (h' : wpMix P ops A ex C Q r a' w') => wpAnyM_of_mix hA hs r (i :: seen) (listed.setIfInBounds i true) a' w' hsize' hseen' hl' hmem' (hc.set hready) hn' h4 h'
      have h' : mOp P ops A ex C i (wpMix P ops A ex C Q r) a w := h
      unfold mOp at h' ⊢
      simp only [ho] at h' ⊢
      split
      · rename_i hp
        simp only [hp, if_true] at h'
        split
        · rename_i hw
          simp only [hw, if_true] at h'
          refine wpR_mono (fun a' w' ⟨h5, h6⟩ => ⟨h5, go _ _ (fun j hj hpj hl => h5 (late_of hj hpj ?_)) h6⟩) h'
          exact by
            cases hcl : inCl A i j with
            | false => rfl
            | true => have := hc.ready hA hready hcl; rw [getD_tf (unlisted_of_set hl).2] at this; cases this
        · rename_i hw
          simp only [hw] at h'
          exact go _ _ (fun j hj hpj hl => hn j hj hpj (unlisted_of_set hl).2) h'
      · rename_i hp
        simp only [hp] at h'
        obtain ⟨v, h5, h6⟩ := h'
        exact ⟨v, h5, go _ _ (fun j hj hpj hl => hn j hj hpj (unlisted_of_set hl).2) h6⟩

/-- **ONE ORDER SERVES EVERY ORDER.** -/
theorem wp_region_mix {id : Nat} {Q : Exit → Act → World → Prop} {a : Act} {w : World} (l : List Oper) (ex ord : List Nat) (C : World → Prop) (hm : P.follows .mixedOrders = true)
    (hB : (Region.noSelect l.toArray && ord.length == l.length && chk l.toArray (cls l #[]) ex [] ord && (List.range l.length).all (fun k => ord.contains k)) = true) (hC : C { w with drawn := w.drawn + 1 })
    (h : wpMix P l.toArray (cls l #[]) ex C (Q .normal) ord a { w with drawn := w.drawn + 1 }) : (Code.region id l.toArray true).wp P Q a w := by
  simp only [Bool.and_eq_true, beq_iff_eq, List.all_eq_true, List.mem_range] at hB
  obtain ⟨⟨⟨h1, h2⟩, h3⟩, h4⟩ := hB
  have hA : ClsInv l.toArray (cls l #[]) := cls_inv l #[] (by simp) (by intro j m hm; simp at hm)
  have hrep : ∀ k, (Array.replicate l.toArray.size false).getD k false = false := fun k => by
    rcases Nat.lt_or_ge k l.length with h | h
    · simp [h]
    · simp [h]
  have hc : Closed l.toArray (Array.replicate l.toArray.size false) := fun j o _ hl => by rw [hrep] at hl; cases hl
  refine wp_region_any hm ?_
  have := wpAnyM_of_mix (P := P) (C := C) (Q := Q .normal) (ex := ex) hA h1 ord [] (Array.replicate l.toArray.size false) a { w with drawn := w.drawn + 1 } (by simp) (fun k hk => by simp at hk) (fun k _ => by rw [hrep]; rfl)
    (fun k hk _ => by simpa using h4 k (by simpa using hk)) hc (fun _ _ _ _ => hC) h3 h
  rw [h2] at this
  have := wpAny_of_M (Q' := Q) hA (fun _ _ h => h) _ _ _ _ hc (fun _ _ _ _ => hC) this
  simpa using this

end
end Go.Eng

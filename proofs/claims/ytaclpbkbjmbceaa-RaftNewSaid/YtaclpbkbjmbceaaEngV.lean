/-
  A REGION THAT DRAWS ITS ORDER, in which some operations that change the world stand in no order: each of these orders is walked; all else by one order.
-/
import Derived.Test.YtaclpbkbjmbceaaEngU
set_option linter.unusedVariables false
set_option linter.unusedSimpArgs false
namespace Go.Eng
inductive Mo where
  | nil
  | pre (l : List Nat) (m : Mo)
  | fork (a b : Mo)
section
variable {P : Program} {ops : Array Oper} {A : Array Nat} {ex : List Nat} {C : World → Prop}
def wpMo (P : Program) (ops : Array Oper) (A : Array Nat) (ex : List Nat) (C : World → Prop) (Q : Act → World → Prop) : Mo → Act → World → Prop
  | .nil, a, w => Q a w
  | .pre l m, a, w => wpMix P ops A ex C (wpMo P ops A ex C Q m) l a w
  | .fork x y, a, w => wpMo P ops A ex C Q x a w ∧ wpMo P ops A ex C Q y a w
def Mo.heads : Mo → List Nat
  | .nil => []
  | .pre [] _ => []
  | .pre (i :: _) _ => [i]
  | .fork x y => x.heads ++ y.heads
/-- An operation beside these, of which each may be taken first. -/
def okSet (ops : Array Oper) (A : Array Nat) (ex : List Nat) (S : List Nat) (j : Nat) : Bool :=
  S.contains j || (if pinAt ops ex j then S.any (fun i => inCl A j i) else S.all (fun i => inCl A j i || match ops[i]?, ops[j]? with | some oi, some oj => oi.apart ops oj | _, _ => false))
def readyB (ops : Array Oper) (seen : List Nat) (i : Nat) : Bool := (match ops[i]? with | some o => o.after.all fun e => !Region.binds .any e || seen.contains e.on | none => false) && !seen.contains i
def chkPre (ops : Array Oper) (A : Array Nat) (ex : List Nat) : List Nat → List Nat → Bool
  | _, [] => true
  | seen, i :: r => readyB ops seen i && (List.range ops.size).all (fun j => seen.contains j || j == i || okPair ops A ex i j) && chkPre ops A ex (i :: seen) r
def chkMo (ops : Array Oper) (A : Array Nat) (ex : List Nat) : Nat → List Nat → Bool → Mo → Bool
  | f, seen, _, .nil => f == 0 && (List.range ops.size).all fun j => seen.contains j
  | f, seen, u, .pre [] m => !u && chkMo ops A ex f seen false m
  | f, seen, u, .pre (i :: l) m => (if u then readyB ops seen i && pinAt ops ex i && chkPre ops A ex (i :: seen) l else chkPre ops A ex seen (i :: l)) && decide (l.length + 1 ≤ f) && chkMo ops A ex (f - (l.length + 1)) (l.reverse ++ i :: seen) false m
  | f, seen, u, .fork x y => (u || (decide (0 < f) && !(x.heads ++ y.heads).isEmpty && (List.range ops.size).all (fun j => seen.contains j || okSet ops A ex (x.heads ++ y.heads) j))) && chkMo ops A ex f seen true x && chkMo ops A ex f seen true y

structure Seen (ops : Array Oper) (seen : List Nat) (listed : Array Bool) : Prop where
  size : listed.size = ops.size
  lt : ∀ k, seen.contains k = true → k < ops.size
  is : ∀ k, k < ops.size → listed.getD k false = seen.contains k
  closed : Closed ops listed
theorem Seen.un {seen : List Nat} {listed : Array Bool} (h : Seen ops seen listed) {i : Nat} (hi : i < ops.size) (hs : seen.contains i = false) : listed.getD i true = false := by
  have := h.is i hi
  rw [hs] at this
  have hlt : i < listed.size := by rw [h.size]; exact hi
  simp [hlt] at this ⊢
  exact this
theorem Seen.ready {seen : List Nat} {listed : Array Bool} (h : Seen ops seen listed) {i : Nat} (hr : readyB ops seen i = true) : i ∈ Region.ready .any ops listed := by
  unfold readyB at hr
  rw [Bool.and_eq_true] at hr
  obtain ⟨h1, h2⟩ := hr
  cases ho : ops[i]? with
  | none => simp [ho] at h1
  | some o =>
    simp only [ho] at h1
    have hi := (Array.getElem?_eq_some_iff.1 ho).1
    refine mem_ready.2 ⟨h.un hi (by simpa using h2), o, ho, fun e he hb => ?_⟩
    have h5 := Array.all_eq_true_iff_forall_mem.1 h1 e he
    simp only [hb, Bool.not_true, Bool.false_or] at h5
    rw [h.is _ (h.lt _ h5)]; exact h5
theorem Seen.set {seen : List Nat} {listed : Array Bool} (h : Seen ops seen listed) {i : Nat} (hr : readyB ops seen i = true) : Seen ops (i :: seen) (listed.setIfInBounds i true) := by
  have hready := h.ready hr
  obtain ⟨_, o, ho, _⟩ := mem_ready.1 hready
  have hilt := (Array.getElem?_eq_some_iff.1 ho).1
  refine ⟨by simpa using h.size, fun k hk => ?_, fun k hk => ?_, h.closed.set hready⟩
  · simp only [List.contains_cons, Bool.or_eq_true, beq_iff_eq] at hk
    rcases hk with rfl | hk
    · exact hilt
    · exact h.lt k hk
  · by_cases hik : i = k
    · subst hik
      have hlt : i < listed.size := by rw [h.size]; exact hilt
      simp [hlt]
    · rw [getD_set_ne false hik, h.is k hk]
      have : (k == i) = false := by simpa using Ne.symm hik
      simp only [List.contains_cons, this, Bool.false_or]

/-- Each of these may be taken first, and each is. -/
theorem wpAnyM_set {Q : Act → World → Prop} (hA : ClsInv ops A) (hs : Region.noSelect ops = true) {S : List Nat} (hSp : ∀ i ∈ S, pinAt ops ex i = true) {i0 : Nat} (hi0 : i0 ∈ S) : ∀ (fuel : Nat) (listed : Array Bool) (a : Act) (w : World),
    Closed ops listed → Needs ops ex C listed w → (∀ i ∈ S, i ∈ Region.ready .any ops listed) → (∀ j, j < ops.size → listed.getD j true = false → okSet ops A ex S j = true) →
    (∀ i ∈ S, mOp P ops A ex C i (wpAnyM P ops A ex C Q fuel (listed.setIfInBounds i true)) a w) → wpAnyM P ops A ex C Q (fuel + 1) listed a w := by
  intro fuel
  have sel := Region.noSelect_spec hs
  induction fuel with
  | zero =>
    intro listed a w hc hn hr hfree H
    refine ⟨fun h => (by have := hr i0 hi0; rw [h] at this; cases this), fun j hj => ?_⟩
    by_cases hji : j = i0
    · subst hji; exact H j hi0
    · exfalso
      have h1 := ready_mono hj hji
      have h2 : Region.ready .any ops (listed.setIfInBounds i0 true) = [] := by
        have H0 := H i0 hi0
        obtain ⟨_, oi, hi, _⟩ := mem_ready.1 (hr i0 hi0)
        unfold mOp at H0
        simp only [hi] at H0
        split at H0
        · split at H0
          · obtain ⟨v, w', _, h3⟩ := wpR_out H0; exact h3.1
          · exact H0.1
        · obtain ⟨v, _, h3⟩ := H0; exact h3.1
      rw [h2] at h1
      cases h1
  | succ fuel ih =>
    intro listed a w hc hn hr hfree H
    refine ⟨fun h => (by have := hr i0 hi0; rw [h] at this; cases this), fun j hj => ?_⟩
    by_cases hjS : j ∈ S
    · exact H j hjS
    · obtain ⟨hjun, oj, hoj, hall⟩ := mem_ready.1 hj
      have hjlt : j < ops.size := (Array.getElem?_eq_some_iff.1 hoj).1
      have hp := hfree j hjlt hjun
      have hcont : S.contains j = false := by simpa using hjS
      unfold okSet at hp
      rw [hcont, Bool.false_or] at hp
      have hcl : ∀ i ∈ S, inCl A j i = false := fun i hi => not_ready hA hc (mem_ready.1 (hr i hi)).1 hj
      have hpj : pinAt ops ex j = false := by
        cases hpj : pinAt ops ex j with
        | false => rfl
        | true =>
          rw [hpj, if_pos rfl, List.any_eq_true] at hp
          obtain ⟨i, hi, h⟩ := hp
          rw [hcl i hi] at h; cases h
      rw [hpj, if_neg (by simp), List.all_eq_true] at hp
      have hCw : C w := hn j hjlt hpj hjun
      have hc' := hc.set hj
      have selj := fun cs b => sel j oj cs b hoj
      have one : ∀ i ∈ S, ∃ v, FreeIn P ops C oj v a ∧ ∀ u, FreeIn P ops C oj u a → mOp P ops A ex C i (wpAnyM P ops A ex C Q fuel ((listed.setIfInBounds j true).setIfInBounds i true)) (a.put oj.dst u) w := by
        intro i hiS
        obtain ⟨hiun, oi, hi, _⟩ := mem_ready.1 (hr i hiS)
        have hap := hp i hiS
        rw [hcl i hiS, Bool.false_or] at hap
        simp only [hi, hoj] at hap
        obtain ⟨h1, h2, h3⟩ := Oper.apart_spec hap
        have seli := fun cs b => sel i oi cs b hi
        have hji : j ≠ i := fun e => hjS (e ▸ hiS)
        have hcomm : (listed.setIfInBounds i true).setIfInBounds j true = (listed.setIfInBounds j true).setIfInBounds i true := Array.setIfInBounds_comm _ _ (Ne.symm hji)
        have hri : j ∈ Region.ready .any ops (listed.setIfInBounds i true) := ready_mono hj hji
        have exi : ∀ (a : Act) u, execOp (a.put oj.dst u).eval oi = execOp a.eval oi := fun a u => execOp_put oi seli a oj.dst u h3
        have exj : ∀ (a : Act) u, execOp (a.put oi.dst u).eval oj = execOp a.eval oj := fun a u => execOp_put oj selj a oi.dst u h1
        have wai : ∀ (a : Act) u, Region.wanted oi (yielded ops (a.put oj.dst u).tmps) = Region.wanted oi (yielded ops a.tmps) := fun a u => wanted_put oi a oj.dst u h3
        have waj : ∀ (a : Act) u, Region.wanted oj (yielded ops (a.put oi.dst u).tmps) = Region.wanted oj (yielded ops a.tmps) := fun a u => wanted_put oj a oi.dst u h1
        have comm : ∀ (a : Act) u v, (a.put oi.dst u).put oj.dst v = (a.put oj.dst v).put oi.dst u := fun a u v => Act.put_comm a u v h2
        have H' := H i hiS
        unfold mOp at H' ⊢
        have hpi := hSp i hiS
        simp only [hi, hpi, if_true] at H' ⊢
        have jout : ∀ u w', wpAnyM P ops A ex C Q (fuel + 1) (listed.setIfInBounds i true) (a.put oi.dst u) w' →
            ∃ v, FreeIn P ops C oj v a ∧ wpAnyM P ops A ex C Q fuel ((listed.setIfInBounds i true).setIfInBounds j true) ((a.put oi.dst u).put oj.dst v) w' := by
          intro u w' h4
          have h5 := h4.2 j hri
          unfold mOp at h5
          simp only [hoj, hpj, if_false, Bool.false_eq_true] at h5
          obtain ⟨v, h6, h7⟩ := h5
          exact ⟨v, h6.of_same (exj a u).symm (waj a u).symm, h7⟩
        split at H'
        · rename_i hw
          have hput := wpR_put H'
          obtain ⟨u0, w0, ⟨u, _, _, h4⟩⟩ := wpR_out hput
          obtain ⟨v0, hv0, _⟩ := jout u0 w0 h4
          refine ⟨v0, hv0, fun v hv => ?_⟩
          simp only [wai, hw, if_true]
          have key : ∀ (a' : Act) (w' : World), (∃ v, a' = a.put oi.dst v ∧ (late ops A ex i = true → C w') ∧ wpAnyM P ops A ex C Q (fuel + 1) (listed.setIfInBounds i true) a' w') →
              (late ops A ex i = true → C w') ∧ wpAnyM P ops A ex C Q fuel ((listed.setIfInBounds j true).setIfInBounds i true) (a'.put oj.dst v) w' := by
            rintro a' w' ⟨u, rfl, hl, h4⟩
            obtain ⟨v', hv', h5⟩ := jout u w' h4
            have := FreeIn.one hCw hv hv'
            subst this
            exact ⟨hl, by rw [← hcomm]; exact h5⟩
          unfold wpR at hput ⊢
          rw [exi a v]
          generalize (execOp a.eval oi).run P w = r at *
          cases r with
          | ok n w' =>
            cases n <;> simp only at hput ⊢
            case value u => rw [← comm]; exact key _ _ hput
            case skip => rw [← comm]; exact key _ _ hput
            case enter f args => exact hput.mono fun e w'' ⟨u, he, hk⟩ => ⟨u, he, by rw [← comm]; exact key _ _ hk⟩
          | halt x w' => simp only at hput
        · rename_i hw
          obtain ⟨v0, hv0, h5⟩ := jout undef w H'
          refine ⟨v0, hv0, fun v hv => ?_⟩
          have := FreeIn.one hCw hv hv0
          subst this
          simp only [wai, hw, if_false, Bool.false_eq_true]
          rw [← comm, ← hcomm]
          exact h5
      obtain ⟨v, hv, _⟩ := one i0 hi0
      have hok : ∃ u, FreeIn P ops C oj u a ∧ wpAnyM P ops A ex C Q (fuel + 1) (listed.setIfInBounds j true) (a.put oj.dst u) w := by
        refine ⟨v, hv, ih _ _ _ hc' (fun k hk hpk hun => hn k hk hpk (unlisted_of_set hun).2) (fun i hi => ready_mono (hr i hi) (fun e => hjS (e ▸ hi))) (fun k hk hun => hfree k hk (unlisted_of_set hun).2) fun i hi => ?_⟩
        obtain ⟨_, _, h⟩ := one i hi
        exact h v hv
      unfold mOp
      simp only [hoj, hpj, if_false, Bool.false_eq_true]
      exact hok

/-- One operation taken: the rest goes on. -/
theorem mOp_go {Q Q' : Act → World → Prop} (hA : ClsInv ops A) {seen : List Nat} {listed : Array Bool} (hI : Seen ops seen listed) {i : Nat} (hr : readyB ops seen i = true) {a : Act} {w : World} (hn : Needs ops ex C listed w)
    (go : ∀ a' w', Needs ops ex C (listed.setIfInBounds i true) w' → Q a' w' → Q' a' w') (h : mOp P ops A ex C i Q a w) : mOp P ops A ex C i Q' a w := by
  have hready := hI.ready hr
  obtain ⟨_, o, ho, _⟩ := mem_ready.1 hready
  have keep : Needs ops ex C (listed.setIfInBounds i true) w := fun k hk hpk hun => hn k hk hpk (unlisted_of_set hun).2
  unfold mOp at h ⊢
  simp only [ho] at h ⊢
  split
  · rename_i hp
    simp only [hp, if_true] at h
    split
    · rename_i hw
      simp only [hw, if_true] at h
      refine wpR_mono (fun a' w' ⟨h5, h6⟩ => ⟨h5, go _ _ (fun j hj hpj hl => h5 (late_of hj hpj ?_)) h6⟩) h
      cases hcl : inCl A i j with
      | false => rfl
      | true => have := hI.closed.ready hA hready hcl; rw [getD_tf (unlisted_of_set hl).2] at this; cases this
    · rename_i hw
      simp only [hw] at h
      exact go _ _ keep h
  · rename_i hp
    simp only [hp] at h
    obtain ⟨v, h5, h6⟩ := h
    exact ⟨v, h5, go _ _ keep h6⟩
theorem anyM_pre {Q K : Act → World → Prop} (hA : ClsInv ops A) (hs : Region.noSelect ops = true) {f : Nat} : ∀ (l seen : List Nat) (listed : Array Bool) (a : Act) (w : World), Seen ops seen listed → Needs ops ex C listed w → chkPre ops A ex seen l = true →
    (∀ listed' a' w', Seen ops (l.reverse ++ seen) listed' → Needs ops ex C listed' w' → K a' w' → wpAnyM P ops A ex C Q f listed' a' w') → wpMix P ops A ex C K l a w → wpAnyM P ops A ex C Q (f + l.length) listed a w
  | [], seen, listed, a, w, hI, hn, _, go, h => go listed a w hI hn h
  | i :: l, seen, listed, a, w, hI, hn, hchk, go, h => by
    simp only [chkPre, Bool.and_eq_true] at hchk
    obtain ⟨⟨h1, h2⟩, h3⟩ := hchk
    have hready := hI.ready h1
    obtain ⟨_, oi, ho, _⟩ := mem_ready.1 hready
    have hilt := (Array.getElem?_eq_some_iff.1 ho).1
    refine wpAnyM_first (fuel := f + l.length) hA hs ho listed a w hI.closed hn hready (fun j hj hne hju => ?_) ?_
    · have h4 := List.all_eq_true.1 h2 j (List.mem_range.2 hj)
      have h5 : seen.contains j = false := by
        have := hI.is j hj
        rw [getD_tf hju] at this
        exact this.symm
      rw [h5, show (j == i) = false by simpa using hne] at h4
      simpa using h4
    · exact mOp_go hA hI h1 hn (fun a' w' hn' h' => anyM_pre hA hs l (i :: seen) _ a' w' (hI.set h1) hn' h3 (fun listed' a' w' hI' => go listed' a' w' (by simpa using hI')) h') h
mutual
theorem anyM_mo {Q : Act → World → Prop} (hA : ClsInv ops A) (hs : Region.noSelect ops = true) (m : Mo) (f : Nat) (seen : List Nat) (listed : Array Bool) (a : Act) (w : World) (hI : Seen ops seen listed) (hn : Needs ops ex C listed w)
    (hchk : chkMo ops A ex f seen false m = true) (h : wpMo P ops A ex C Q m a w) : wpAnyM P ops A ex C Q f listed a w := by
  match m, hchk, h with
  | .nil, hchk, h =>
    simp only [chkMo, Bool.and_eq_true, beq_iff_eq] at hchk
    obtain ⟨rfl, h2⟩ := hchk
    refine ⟨?_, h⟩
    cases hr : Region.ready .any ops listed with
    | nil => rfl
    | cons j r =>
      exfalso
      have hj : j ∈ Region.ready .any ops listed := by rw [hr]; simp
      obtain ⟨h0, o, ho, _⟩ := mem_ready.1 hj
      have hjlt := (Array.getElem?_eq_some_iff.1 ho).1
      have h1 := hI.is j hjlt
      rw [List.all_eq_true.1 h2 j (List.mem_range.2 hjlt), getD_tf h0] at h1
      cases h1
  | .pre [] m, hchk, h =>
    simp only [chkMo, Bool.not_false, Bool.true_and] at hchk
    exact anyM_mo hA hs m f seen listed a w hI hn hchk h
  | .pre (i :: l) m, hchk, h =>
    simp only [chkMo, Bool.and_eq_true, Bool.false_eq_true, if_false, decide_eq_true_eq] at hchk
    obtain ⟨⟨h1, h2⟩, h3⟩ := hchk
    have e : f = (f - (l.length + 1)) + (i :: l).length := by simp; omega
    rw [e]
    refine anyM_pre (K := wpMo P ops A ex C Q m) hA hs (i :: l) seen listed a w hI hn h1 (fun listed' a' w' hI' hn' h' => anyM_mo hA hs m _ (l.reverse ++ i :: seen) listed' a' w' (by simpa using hI') hn' h3 h') h
  | .fork x y, hchk, h =>
    simp only [chkMo, Bool.and_eq_true, Bool.false_or, decide_eq_true_eq, Bool.not_eq_true'] at hchk
    obtain ⟨⟨⟨⟨h1, h2⟩, h3⟩, h4⟩, h5⟩ := hchk
    have hx := heads_mo (Q := Q) (f := f) hA hs x seen listed a w hI hn h4 h.1
    have hy := heads_mo (Q := Q) (f := f) hA hs y seen listed a w hI hn h5 h.2
    have hall : ∀ i ∈ x.heads ++ y.heads, readyB ops seen i = true ∧ pinAt ops ex i = true ∧ mOp P ops A ex C i (wpAnyM P ops A ex C Q (f - 1) (listed.setIfInBounds i true)) a w := fun i hi => (List.mem_append.1 hi).elim (hx i) (hy i)
    obtain ⟨i0, hi0⟩ : ∃ i0, i0 ∈ x.heads ++ y.heads := by
      cases hh : x.heads ++ y.heads with
      | nil => rw [hh] at h2; cases h2
      | cons i r => exact ⟨i, by simp⟩
    have e : f = (f - 1) + 1 := by omega
    rw [e]
    refine wpAnyM_set hA hs (S := x.heads ++ y.heads) (fun i hi => (hall i hi).2.1) hi0 (f - 1) listed a w hI.closed hn (fun i hi => hI.ready (hall i hi).1) (fun j hj hju => ?_) (fun i hi => (hall i hi).2.2)
    have h6 := List.all_eq_true.1 h3 j (List.mem_range.2 hj)
    have h7 : seen.contains j = false := by
      have := hI.is j hj
      rw [getD_tf hju] at this
      exact this.symm
    rw [h7] at h6
    simpa using h6
theorem heads_mo {Q : Act → World → Prop} {f : Nat} (hA : ClsInv ops A) (hs : Region.noSelect ops = true) (m : Mo) (seen : List Nat) (listed : Array Bool) (a : Act) (w : World) (hI : Seen ops seen listed) (hn : Needs ops ex C listed w)
    (hchk : chkMo ops A ex f seen true m = true) (h : wpMo P ops A ex C Q m a w) : ∀ i ∈ m.heads, readyB ops seen i = true ∧ pinAt ops ex i = true ∧ mOp P ops A ex C i (wpAnyM P ops A ex C Q (f - 1) (listed.setIfInBounds i true)) a w := by
  match m, hchk, h with
  | .nil, _, _ => exact fun i hi => by cases hi
  | .pre [] m, _, _ => exact fun i hi => by cases hi
  | .pre (i :: l) m, hchk, h =>
    simp only [chkMo, Bool.and_eq_true, if_true, decide_eq_true_eq] at hchk
    obtain ⟨⟨⟨⟨h1, h2⟩, h3⟩, h4⟩, h5⟩ := hchk
    intro j hj
    have hj : j = i := by simpa [Mo.heads] using hj
    subst hj
    refine ⟨h1, h2, mOp_go hA hI h1 hn (fun a' w' hn' h' => ?_) h⟩
    have e : f - 1 = (f - (l.length + 1)) + l.length := by omega
    rw [e]
    exact anyM_pre (K := wpMo P ops A ex C Q m) hA hs l (j :: seen) _ a' w' (hI.set h1) hn' h3 (fun listed' a' w' hI' hn'' h'' => anyM_mo hA hs m _ (l.reverse ++ j :: seen) listed' a' w' hI' hn'' h5 h'') h'
  | .fork x y, hchk, h =>
    simp only [chkMo, Bool.and_eq_true, Bool.true_or, true_and] at hchk
    obtain ⟨h4, h5⟩ := hchk
    intro i hi
    rcases List.mem_append.1 hi with hi | hi
    · exact heads_mo hA hs x seen listed a w hI hn h4 h.1 i hi
    · exact heads_mo hA hs y seen listed a w hI hn h5 h.2 i hi
end
theorem wp_region_mo {id : Nat} {Q : Exit → Act → World → Prop} {a : Act} {w : World} (l : List Oper) (ex : List Nat) (m : Mo) (C : World → Prop) (hm : P.follows .mixedOrders = true)
    (hB : (Region.noSelect l.toArray && chkMo l.toArray (cls l #[]) ex l.length [] false m) = true) (hC : C { w with drawn := w.drawn + 1 })
    (h : wpMo P l.toArray (cls l #[]) ex C (Q .normal) m a { w with drawn := w.drawn + 1 }) : (Code.region id l.toArray true).wp P Q a w := by
  simp only [Bool.and_eq_true] at hB
  obtain ⟨h1, h3⟩ := hB
  have hA : ClsInv l.toArray (cls l #[]) := cls_inv l #[] (by simp) (by intro j m hm; simp at hm)
  have hrep : ∀ k, (Array.replicate l.toArray.size false).getD k false = false := fun k => by
    rcases Nat.lt_or_ge k l.length with h | h
    · simp [h]
    · simp [h]
  have hc : Closed l.toArray (Array.replicate l.toArray.size false) := fun j o _ hl => by rw [hrep] at hl; cases hl
  refine wp_region_any hm ?_
  have := anyM_mo (P := P) (C := C) (Q := Q .normal) (ex := ex) hA h1 m l.length [] (Array.replicate l.toArray.size false) a { w with drawn := w.drawn + 1 } ⟨by simp, (fun k hk => by simp at hk), (fun k _ => by rw [hrep]; rfl), hc⟩ (fun _ _ _ _ => hC) h3 h
  have := wpAny_of_M (Q' := Q) hA (fun _ _ h => h) _ _ _ _ hc (fun _ _ _ _ => hC) this
  simpa using this
end
section
variable {Γ : Ctx} {e : Env} {As Ac Rs : List Atom} {ops : Array Oper} {A : Array Nat} {ex : List Nat} {Q : Exit → Act → World → Prop} {Qm : Act → World → Prop} {K : Act → World → Prop}
/-- What a tree of orders comes to. -/
abbrev moK (Γ : Ctx) (ops : Array Oper) (A : Array Nat) (ex : List Nat) (Ac : List Atom) (Q : Act → World → Prop) (m : Mo) : Act → World → Prop := wpMo Γ.P ops A ex (fun w => HeapOK Γ.w0 Γ.F0 Ac w) Q m
theorem a_mo {id : Nat} {l : List Oper} (ex : List Nat) (m : Mo) (Ac : List Atom) (h : TK Γ (moK Γ l.toArray (cls l #[]) ex Ac (Q .normal) m) e As) [hm : MixC Γ.P] [hp : PickC As Ac Rs] (hB : (Region.noSelect l.toArray && chkMo l.toArray (cls l #[]) ex l.length [] false m) = true := by kernel_rfl) : TC Γ Q (.region id l.toArray true) e As := .mk fun a w he hh =>
  wp_region_mo l ex m _ hm.h hB ((hh.drawn _).pick hp.h) (h.h a _ he (hh.drawn _))
theorem mo_pre {l : List Nat} {m : Mo} (h : TM Γ ops A ex Ac (moK Γ ops A ex Ac Qm m) l e As) : TK Γ (moK Γ ops A ex Ac Qm (.pre l m)) e As := .mk h.h
theorem mo_fork {x y : Mo} (hx : TK Γ (moK Γ ops A ex Ac Qm x) e As) (hy : TK Γ (moK Γ ops A ex Ac Qm y) e As) : TK Γ (moK Γ ops A ex Ac Qm (.fork x y)) e As := .mk fun a w he hh => ⟨hx.h a w he hh, hy.h a w he hh⟩
theorem mo_nil (h : TK Γ Qm e As) : TK Γ (moK Γ ops A ex Ac Qm .nil) e As := .mk h.h
/-- Several ways that lead to one tree. -/
theorem mo_join {σ : Type} (env : σ → Env) (at_ : σ → List Atom) (ok : σ → Prop) (t m : Mo) (main : (∀ s, ok s → TK Γ (moK Γ ops A ex Ac Qm t) (env s) (at_ s)) → TK Γ (moK Γ ops A ex Ac Qm m) e As) (j : ∀ s, ok s → TK Γ (moK Γ ops A ex Ac Qm t) (env s) (at_ s)) : TK Γ (moK Γ ops A ex Ac Qm m) e As := main j
end
end Go.Eng

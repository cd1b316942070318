/-
  RAFT, PLAINLY: small laws on numbers and lists.
-/
import Derived.Test.YtaclpbkbjmbceaaRp
set_option linter.unusedVariables false
set_option linter.unusedSimpArgs false
namespace Go.Proofs.Ytaclpbkbjmbceaa
open Go.Eng
/-! ### What more than half have: by counting, by sorting -/
theorem foldl_best {P : Int → Prop} [DecidablePred P] : ∀ (l : List Int) (b : Int), b ≤ l.foldl (fun best x => if P x then max best x else best) b ∧ (∀ x ∈ l, P x → x ≤ l.foldl (fun best x => if P x then max best x else best) b) ∧ (l.foldl (fun best x => if P x then max best x else best) b = b ∨ ∃ x ∈ l, P x ∧ l.foldl (fun best x => if P x then max best x else best) b = x)
  | [], b => ⟨Int.le_refl _, (fun x hx => by cases hx), .inl rfl⟩
  | y :: l, b => by
    simp only [List.foldl_cons]
    obtain ⟨h1, h2, h3⟩ := foldl_best (P := P) l (if P y then max b y else b)
    have hb : b ≤ (if P y then max b y else b) := by split <;> omega
    refine ⟨Int.le_trans hb h1, fun x hx hPx => ?_, ?_⟩
    · rcases List.mem_cons.1 hx with rfl | hx
      · rw [if_pos hPx] at h1 ⊢
        exact Int.le_trans (Int.le_max_right _ _) h1
      · exact h2 x hx hPx
    · rcases h3 with h3 | ⟨x, hx, hPx, h3⟩
      · rw [h3]
        by_cases hy : P y
        · rw [if_pos hy]
          rcases Int.le_total b y with h | h
          · exact .inr ⟨y, List.mem_cons_self, hy, by omega⟩
          · exact .inl (by omega)
        · rw [if_neg hy]; exact .inl rfl
      · exact .inr ⟨x, List.mem_cons_of_mem _ hx, hPx, h3⟩
theorem settled_sorted (l s : List Int) (hp : s.Perm l) (hs : s.Pairwise (· ≤ ·)) (h0 : ∀ x ∈ l, 0 ≤ x) (k : Nat) (m : Int) (hk : k = (l.length - 1) / 2) (hm : s[k]? = some m) : settledI l = m := by
  have hlen : s.length = l.length := hp.length_eq
  have hkl : k < s.length := (List.getElem?_eq_some_iff.1 hm).1
  have hmk : s[k] = m := (List.getElem?_eq_some_iff.1 hm).2
  have hml : m ∈ l := hp.mem_iff.1 (hmk ▸ List.getElem_mem hkl)
  have hle : ∀ i j (hi : i < s.length) (hj : j < s.length), i ≤ j → s[i] ≤ s[j] := fun i j hi hj hij => by
    rcases Nat.lt_or_eq_of_le hij with h | h
    · exact (List.pairwise_iff_getElem.1 hs) i j hi hj h
    · subst h; exact Int.le_refl _
  have hcnt : ∀ p : Int → Bool, l.countP p = s.countP p := fun p => (hp.countP_eq p).symm
  have hsplit : ∀ p : Int → Bool, ∀ j, s.countP p = (s.take j).countP p + (s.drop j).countP p := fun p j => by
    rw [← List.countP_append, List.take_append_drop]
  have q1 : (l.length : Int) < 2 * (l.countP (fun y => decide (m ≤ y)) : Int) := by
    have e1 : (s.drop k).countP (fun y => decide (m ≤ y)) = (s.drop k).length := by
      rw [List.countP_eq_length]
      intro y hy
      obtain ⟨i, hi, rfl⟩ := List.getElem_of_mem hy
      simp only [List.getElem_drop, decide_eq_true_eq]
      rw [← hmk]
      exact hle _ _ _ _ (by omega)
    have e2 := hsplit (fun y => decide (m ≤ y)) k
    rw [hcnt, e2, e1, List.length_drop]
    omega
  have q2 : ∀ x, (l.length : Int) < 2 * (l.countP (fun y => decide (x ≤ y)) : Int) → x ≤ m := fun x hx => by
    rcases Int.lt_or_le m x with h | h
    · exfalso
      have e1 : (s.take (k + 1)).countP (fun y => decide (x ≤ y)) = 0 := by
        rw [List.countP_eq_zero]
        intro y hy
        obtain ⟨i, hi, rfl⟩ := List.getElem_of_mem hy
        simp only [List.length_take] at hi
        simp only [List.getElem_take, decide_eq_true_eq]
        have := hle i k (by omega) hkl (by omega)
        omega
      have e2 := hsplit (fun y => decide (x ≤ y)) (k + 1)
      have e3 : (s.drop (k + 1)).countP (fun y => decide (x ≤ y)) ≤ (s.drop (k + 1)).length := List.countP_le_length
      rw [hcnt, e2, e1] at hx
      rw [List.length_drop] at e3
      omega
    · exact h
  obtain ⟨h1, h2, h3⟩ := foldl_best (P := fun x => (l.length : Int) < 2 * (l.countP (fun y => decide (x ≤ y)) : Int)) l 0
  have h4 := h2 m hml q1
  unfold settledI
  rcases h3 with h3 | ⟨x, hx, hPx, h3⟩
  · have := h0 m hml
    omega
  · have := q2 x hPx
    omega
/-! ### Loops that ask each element -/
theorem all_step {α : Type} {p : α → Bool} {l : List α} {i : Int} {x : α} (h0 : 0 ≤ i) (hx : l[i.toNat]? = some x) : (l.take (i + 1).toNat).all p = ((l.take i.toNat).all p && p x) := by
  rw [show (i + 1).toNat = i.toNat + 1 by omega, List.take_add_one, hx]; simp
theorem all_no {α : Type} {p : α → Bool} {l : List α} {i : Nat} {x : α} (hx : l[i]? = some x) (h : p x = false) : l.all p = false := by
  rw [List.all_eq_false]
  exact ⟨x, List.mem_of_getElem? hx, by simp [h]⟩
theorem all_end {α : Type} {p : α → Bool} {l : List α} {i : Int} (h : (l.take i.toNat).all p = true) (hi : ¬ i < l.length) : l.all p = true := by
  rwa [List.take_of_length_le (by omega)] at h
theorem rises_iff : ∀ (l : List Int), risesB l = true ↔ ∀ (k : Nat) (x y : Int), l[k]? = some x → l[k + 1]? = some y → x < y
  | [] => by simp [risesB]
  | [a] => by
    simp only [risesB, Bool.and_self, true_iff]
    intro k x y _ h
    simp at h
  | a :: b :: r => by
    have ih := rises_iff (b :: r)
    rw [risesB, Bool.and_eq_true, ih]
    constructor
    · rintro ⟨h1, h2⟩ k x y hx hy
      cases k with
      | zero => simp at hx hy; subst hx hy; simpa using h1
      | succ k => exact h2 k x y (by simpa using hx) (by simpa using hy)
    · intro h
      exact ⟨by simpa using h 0 a b rfl rfl, fun k x y hx hy => h (k + 1) x y (by simpa using hx) (by simpa using hy)⟩
theorem rising_iff (nodes : Int) (l : List Int) : risingB nodes l = true ↔ ∀ (k : Nat) (x : Int), l[k]? = some x → 1 ≤ x ∧ x ≤ nodes ∧ ∀ (j : Nat) (y : Int), k = j + 1 → l[j]? = some y → y < x := by
  unfold risingB
  rw [Bool.and_eq_true, rises_iff]
  constructor
  · rintro ⟨h1, h2⟩ k x hx
    have := List.all_eq_true.1 h1 x (List.mem_of_getElem? hx)
    simp at this
    exact ⟨this.1, this.2, fun j y hj hy => h2 j y x hy (hj ▸ hx)⟩
  · intro h
    refine ⟨List.all_eq_true.2 fun x hx => ?_, fun k x y hx hy => (h (k + 1) y hy).2.2 k x rfl hx⟩
    obtain ⟨k, hk⟩ := List.getElem?_of_mem hx
    have := h k x hk
    simp; exact ⟨this.1, this.2.1⟩
/-! ### A string cut twice -/
theorem extract2 (s : ByteArray) (a n : Nat) (h : a + n ≤ s.size) : (s.extract a s.size).extract 0 n = s.extract a (a + n) := by
  rw [ByteArray.extract_extract]
  congr 1
  omega
/-! ### A log that may be -/
theorem runs_get {i t : Int} {l : List Ent} (h : runsB i t l = true) : ∀ (j : Nat) (x : Ent), l[j]? = some x → x.index = i + 1 + j ∧ goodB x = true ∧ t ≤ x.term := by
  induction l generalizing i t with
  | nil => intro j x hj; simp at hj
  | cons e r ih =>
    intro j x hj
    simp only [runsB, Bool.and_eq_true, decide_eq_true_eq] at h
    obtain ⟨h1, h2, h3, h4⟩ := h
    cases j with
    | zero =>
      simp at hj
      subst hj
      exact ⟨by omega, h1, h3⟩
    | succ j =>
      simp at hj
      obtain ⟨g1, g2, g3⟩ := ih h4 j x hj
      exact ⟨by omega, g2, by omega⟩
theorem log_end {l : Log} (h : logB l = true) : l.endI = l.base + l.ents.length := by
  simp only [logB, Bool.and_eq_true, decide_eq_true_eq] at h
  obtain ⟨_, _, _, _, h5⟩ := h
  unfold Log.endI
  cases hg : l.ents.getLast? with
  | none => simp at hg; simp [hg]
  | some e =>
    rw [List.getLast?_eq_getElem?] at hg
    have := (runs_get h5 _ _ hg).1
    have hl := (List.getElem?_eq_some_iff.1 hg).1
    simp only
    omega
theorem rises_step (a : Int) (l : List Int) : risesB (a :: l) = ((match l with | [] => true | b :: _ => decide (a < b)) && risesB l) := by cases l <;> simp [risesB]
end Go.Proofs.Ytaclpbkbjmbceaa

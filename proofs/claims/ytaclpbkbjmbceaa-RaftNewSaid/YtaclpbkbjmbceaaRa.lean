/-
  RAFT: what a log, a list of numbers may be.
-/
import Derived.Test.YtaclpbkbjmbceaaRq
set_option linter.unusedVariables false
set_option linter.unusedSimpArgs false
set_option maxRecDepth 100000
namespace Go.Proofs.Ytaclpbkbjmbceaa
open Go.Eng
theorem number_m (n : Int) (w : World) : Meets Try.prog 26 [.int .i64 n] w (fpAll []) (fun v _ => v = .bool (numB n)) := by
  refine enter tysOK Try.func26 rfl Try.ntmps26 rfl (HeapOK.start w) ?_
  repeat (first | refine St.imp ?_ | (refine st_seq ?_; intro K hK) | refine st_t ?_ | refine st_f ?_ | refine st_miss ?_)
  refine a_val ?_ v_assign
  repeat (first | refine St.imp ?_ | (refine st_seq ?_; intro K hK) | refine st_t ?_ | refine st_f ?_ | refine st_miss ?_)
  refine a_val ?_ v_move
  refine a_val ?_ v_geq
  refine a_val ?_ v_move
  refine a_case (fun hg3 => ?_) (fun hg3 => ?_)
  rotate_left
  · repeat (first | refine a_skip ?_ | refine a_skipn ?_ | refine a_val ?_ v_pickt | refine a_val ?_ v_pickf | refine a_val ?_ v_move | refine a_val ?_ v_assign | refine St.imp ?_ | refine st_t ?_ | refine st_f ?_ | refine st_miss ?_ | (refine st_seq ?_; intro K hK))
    try simp only [Bool.not_eq_true', Bool.not_eq_false', decide_eq_true_eq, decide_eq_false_iff_not, ne_eq, Decidable.not_not] at hg3
    first | refine a_ret Try.results26 ?_ | refine a_end Try.results26 ?_
    simp [numB, *]
  (first | refine a_val ?_ v_move | refine a_skip ?_)
  (first | refine a_val ?_ v_leq | refine a_skip ?_)
  (first | refine a_val ?_ v_pickt | refine a_val ?_ v_pickf)
  refine a_val ?_ v_assign
  repeat (first | refine St.imp ?_ | (refine st_seq ?_; intro K hK) | refine st_t ?_ | refine st_f ?_ | refine st_miss ?_)
  first | refine a_ret Try.results26 ?_ | refine a_end Try.results26 ?_
  simp [numB, *]
theorem term_m (n : Int) (w : World) : Meets Try.prog 38 [.int .i64 n] w (fpAll []) (fun v _ => v = .bool (numB n)) := by
  refine enter tysOK Try.func38 rfl Try.ntmps38 rfl (HeapOK.start w) ?_
  repeat (first | refine St.imp ?_ | (refine st_seq ?_; intro K hK) | refine st_t ?_ | refine st_f ?_ | refine st_miss ?_)
  refine a_val ?_ v_assign
  repeat (first | refine St.imp ?_ | (refine st_seq ?_; intro K hK) | refine st_t ?_ | refine st_f ?_ | refine st_miss ?_)
  refine a_val ?_ v_move
  refine a_val ?_ v_geq
  refine a_val ?_ v_move
  refine a_case (fun hg3 => ?_) (fun hg3 => ?_)
  rotate_left
  · repeat (first | refine a_skip ?_ | refine a_skipn ?_ | refine a_val ?_ v_pickt | refine a_val ?_ v_pickf | refine a_val ?_ v_move | refine a_val ?_ v_assign | refine St.imp ?_ | refine st_t ?_ | refine st_f ?_ | refine st_miss ?_ | (refine st_seq ?_; intro K hK))
    try simp only [Bool.not_eq_true', Bool.not_eq_false', decide_eq_true_eq, decide_eq_false_iff_not, ne_eq, Decidable.not_not] at hg3
    first | refine a_ret Try.results38 ?_ | refine a_end Try.results38 ?_
    simp [numB, *]
  (first | refine a_val ?_ v_move | refine a_skip ?_)
  (first | refine a_val ?_ v_leq | refine a_skip ?_)
  (first | refine a_val ?_ v_pickt | refine a_val ?_ v_pickf)
  refine a_val ?_ v_assign
  repeat (first | refine St.imp ?_ | (refine st_seq ?_; intro K hK) | refine st_t ?_ | refine st_f ?_ | refine st_miss ?_)
  first | refine a_ret Try.results38 ?_ | refine a_end Try.results38 ?_
  simp [numB, *]
theorem good_m (x : Ent) (w : World) : Meets Try.prog 46 [.agg x.enc.toArray] w (fpAll []) (fun v _ => v = .bool (goodB x)) := by
  refine enter tysOK Try.func46 rfl Try.ntmps46 rfl (HeapOK.start w) ?_
  repeat (first | refine St.imp ?_ | (refine st_seq ?_; intro K hK) | refine st_t ?_ | refine st_f ?_ | refine st_miss ?_)
  (refine a_eff ?_ e_box; rintro _ _ ⟨bz, rfl, rfl⟩)
  refine a_val ?_ v_assign
  repeat (first | refine St.imp ?_ | (refine st_seq ?_; intro K hK) | refine st_t ?_ | refine st_f ?_ | refine st_miss ?_)
  (first | refine a_val ?_ v_field | refine a_val ?_ v_fieldE | refine a_val ?_ v_field0)
  (first | refine a_val ?_ v_load | refine a_val ?_ v_loadA)
  refine a_val ?_ v_geq
  refine a_val ?_ v_move
  refine a_case (fun hg4 => ?_) (fun hg4 => ?_)
  rotate_left
  · repeat (first | refine a_skip ?_ | refine a_skipn ?_ | refine a_val ?_ v_pickt | refine a_val ?_ v_pickf | refine a_val ?_ v_move | refine a_val ?_ v_assign | refine St.imp ?_ | refine st_t ?_ | refine st_f ?_ | refine st_miss ?_ | (refine st_seq ?_; intro K hK))
    try simp only [Bool.not_eq_true', Bool.not_eq_false', decide_eq_true_eq, decide_eq_false_iff_not, ne_eq, Decidable.not_not] at hg4
    first | refine a_ret Try.results46 ?_ | refine a_end Try.results46 ?_
    simp [goodB, *]
  (first | refine a_val ?_ v_field | refine a_val ?_ v_fieldE | refine a_val ?_ v_field0 | refine a_skip ?_)
  (first | refine a_val ?_ v_load | refine a_val ?_ v_loadA | refine a_skip ?_)
  (first | refine a_val ?_ v_leq | refine a_skip ?_)
  (first | refine a_val ?_ v_pickt | refine a_val ?_ v_pickf)
  refine a_val ?_ v_move
  refine a_case (fun hg9 => ?_) (fun hg9 => ?_)
  rotate_left
  · repeat (first | refine a_skip ?_ | refine a_skipn ?_ | refine a_val ?_ v_pickt | refine a_val ?_ v_pickf | refine a_val ?_ v_move | refine a_val ?_ v_assign | refine St.imp ?_ | refine st_t ?_ | refine st_f ?_ | refine st_miss ?_ | (refine st_seq ?_; intro K hK))
    try simp only [Bool.not_eq_true', Bool.not_eq_false', decide_eq_true_eq, decide_eq_false_iff_not, ne_eq, Decidable.not_not] at hg4 hg9
    first | refine a_ret Try.results46 ?_ | refine a_end Try.results46 ?_
    simp [goodB, *]
  (first | refine a_val ?_ v_field | refine a_val ?_ v_fieldE | refine a_val ?_ v_field0 | refine a_skip ?_)
  (first | refine a_val ?_ v_load | refine a_val ?_ v_loadA | refine a_skip ?_)
  (first | (refine a_eff ?_ (e_callP rfl rfl fun w hw => term_m _ w); rintro _ _ ⟨rfl, rfl⟩) | refine a_skip ?_)
  (first | refine a_val ?_ v_pickt | refine a_val ?_ v_pickf)
  refine a_val ?_ v_move
  refine a_case (fun hg14 => ?_) (fun hg14 => ?_)
  rotate_left
  · repeat (first | refine a_skip ?_ | refine a_skipn ?_ | refine a_val ?_ v_pickt | refine a_val ?_ v_pickf | refine a_val ?_ v_move | refine a_val ?_ v_assign | refine St.imp ?_ | refine st_t ?_ | refine st_f ?_ | refine st_miss ?_ | (refine st_seq ?_; intro K hK))
    try simp only [Bool.not_eq_true', Bool.not_eq_false', decide_eq_true_eq, decide_eq_false_iff_not, ne_eq, Decidable.not_not] at hg4 hg9 hg14
    first | refine a_ret Try.results46 ?_ | refine a_end Try.results46 ?_
    simp [goodB, *]
  (first | refine a_val ?_ v_field | refine a_val ?_ v_fieldE | refine a_val ?_ v_field0 | refine a_skip ?_)
  (first | refine a_val ?_ v_load | refine a_val ?_ v_loadA | refine a_skip ?_)
  (first | refine a_val ?_ v_len | refine a_val ?_ v_lenS | refine a_skip ?_)
  (first | refine a_val ?_ v_leq | refine a_skip ?_)
  (first | refine a_val ?_ v_pickt | refine a_val ?_ v_pickf)
  refine a_val ?_ v_assign
  repeat (first | refine St.imp ?_ | (refine st_seq ?_; intro K hK) | refine st_t ?_ | refine st_f ?_ | refine st_miss ?_)
  first | refine a_ret Try.results46 ?_ | refine a_end Try.results46 ?_
  simp [goodB, *]
theorem follow_m (i t : Int) (l : List Ent) (A : Option Addr) (c : Nat) (w : World) [hl : Sl w (fpAll []) Ent.enc 3 l A c] (hi : 0 ≤ i ∧ i ≤ 1099511627776) : Meets Try.prog 39 [.int .i64 i, .int .i64 t, .slice A l.length c] w (fpAll []) (fun v _ => v = .bool (runsB i t l)) := by
  refine enter tysOK Try.func39 rfl Try.ntmps39 rfl (HeapOK.start w) ?_
  have hlen := hl.len
  repeat (first | refine St.imp ?_ | (refine st_seq ?_; intro K hK) | refine st_t ?_ | refine st_f ?_ | refine st_miss ?_)
  refine a_val ?_ v_assign
  repeat (first | refine St.imp ?_ | (refine st_seq ?_; intro K hK) | refine st_t ?_ | refine st_f ?_ | refine st_miss ?_)
  refine a_val ?_ v_move
  (first | refine a_val ?_ v_len | refine a_val ?_ v_lenS)
  refine a_val ?_ v_move
  repeat (first | refine St.imp ?_ | (refine st_seq ?_; intro K hK) | refine st_t ?_ | refine st_f ?_ | refine st_miss ?_)
  refine a_for l.length (fun j s => [(9, .slice A l.length c), (10, .int .i64 l.length), (11, .int .i64 j), (0, .int .i64 s.1), (1, .int .i64 s.2)]) (fun _ _ => []) (fun j s => runsB i t l = runsB s.1 s.2 (l.drop j.toNat) ∧ 0 ≤ s.1 ∧ s.1 ≤ 1099511627776) (i, t) ⟨by simp, hi.1, hi.2⟩ ?_
  rintro j ⟨p, q⟩ h0 h1 ⟨hr, hp0, hp1⟩ KL hKL
  simp only at hr hp0 hp1
  repeat (first | refine St.imp ?_ | (refine st_seq ?_; intro K hK) | refine st_t ?_ | refine st_f ?_ | refine st_miss ?_)
  refine a_val ?_ v_lss
  repeat (first | refine St.imp ?_ | (refine st_seq ?_; intro K hK) | refine st_t ?_ | refine st_f ?_ | refine st_miss ?_)
  refine a_cond (fun hc => ?_) (fun hc => ?_)
  · have hlt : j < l.length := by simpa using hc
    obtain ⟨x, hx⟩ := get_some (l := l) h0 hlt
    repeat (first | refine St.imp ?_ | (refine st_seq ?_; intro K hK) | refine st_t ?_ | refine st_f ?_ | refine st_miss ?_)
    repeat (first | refine St.imp ?_ | (refine st_seq ?_; intro K hK) | refine st_t ?_ | refine st_f ?_ | refine st_miss ?_)
    (first | refine a_val ?_ v_index | refine a_val ?_ v_indexB)
    (first | refine a_val ?_ v_load | refine a_val ?_ v_loadA | refine a_val ?_ (v_loadE hx) | refine a_val ?_ (v_loadE0 hx) | refine a_val ?_ (v_loadEA hx) | refine a_val ?_ (v_loadEA0 hx))
    (refine a_eff ?_ e_alloc; rintro _ _ ⟨bz, rfl, rfl⟩)
    (first | (refine a_effn ?_ e_store; rintro _ _ rfl) | (refine a_effn ?_ e_storeW; rintro _ _ rfl) | (refine a_effn ?_ e_storeA; rintro _ _ rfl) | (refine a_effn ?_ (e_storeE hx); rintro _ _ rfl) | (refine a_effn ?_ (e_storeE0 hx); rintro _ _ rfl))
    repeat (first | refine St.imp ?_ | (refine st_seq ?_; intro K hK) | refine st_t ?_ | refine st_f ?_ | refine st_miss ?_)
    rename Nat => b8
    have hstep : runsB p q (l.drop j.toNat) = (goodB x && (decide (x.index = p + 1) && (decide (q ≤ x.term) && runsB x.index x.term (l.drop (j.toNat + 1))))) := by
      have h2 : j.toNat < l.length := by omega
      have h3 : l[j.toNat] = x := by rw [List.getElem?_eq_getElem h2] at hx; injection hx
      rw [List.drop_eq_getElem_cons h2, h3, runsB]
    repeat (first | refine St.imp ?_ | (refine st_seq ?_; intro K hK) | refine st_t ?_ | refine st_f ?_ | refine st_miss ?_)
    (first | refine a_val ?_ v_load | refine a_val ?_ v_loadA | refine a_val ?_ (v_loadE hx) | refine a_val ?_ (v_loadE0 hx) | refine a_val ?_ (v_loadEA hx) | refine a_val ?_ (v_loadEA0 hx))
    (refine a_eff ?_ (e_callP rfl rfl fun w hw => good_m x w); rintro _ _ ⟨rfl, rfl⟩)
    refine a_val ?_ v_not
    refine a_val ?_ v_move
    refine a_case (fun hg4 => ?_) (fun hg4 => ?_)
    · repeat (first | refine a_skip ?_ | refine a_skipn ?_ | refine a_val ?_ v_pickt | refine a_val ?_ v_pickf | refine a_val ?_ v_move | refine a_val ?_ v_assign | refine St.imp ?_ | refine st_t ?_ | refine st_f ?_ | refine st_miss ?_ | (refine st_seq ?_; intro K hK))
      try simp only [Bool.not_eq_true', Bool.not_eq_false', decide_eq_true_eq, decide_eq_false_iff_not, ne_eq, Decidable.not_not] at hg4
      first | refine a_ret Try.results39 ?_ | refine a_end Try.results39 ?_
      rw [hr, hstep]
      simp [*]
      try omega
    (first | refine a_val ?_ v_field | refine a_val ?_ v_fieldE | refine a_val ?_ v_field0 | refine a_skip ?_)
    (first | refine a_val ?_ v_load | refine a_val ?_ v_loadA | refine a_val ?_ (v_loadE hx) | refine a_val ?_ (v_loadE0 hx) | refine a_val ?_ (v_loadEA hx) | refine a_val ?_ (v_loadEA0 hx) | refine a_skip ?_)
    (first | refine a_val ?_ v_move | refine a_skip ?_)
    (first | refine a_val ?_ v_add | refine a_val ?_ v_cat | refine a_skip ?_)
    (first | refine a_val ?_ v_neq | refine a_val ?_ v_sneq | refine a_val ?_ v_bneq | refine a_val ?_ v_notNil | refine a_skip ?_)
    (first | refine a_val ?_ v_pickt | refine a_val ?_ v_pickf)
    refine a_val ?_ v_move
    refine a_case (fun hg11 => ?_) (fun hg11 => ?_)
    · repeat (first | refine a_skip ?_ | refine a_skipn ?_ | refine a_val ?_ v_pickt | refine a_val ?_ v_pickf | refine a_val ?_ v_move | refine a_val ?_ v_assign | refine St.imp ?_ | refine st_t ?_ | refine st_f ?_ | refine st_miss ?_ | (refine st_seq ?_; intro K hK))
      try simp only [Bool.not_eq_true', Bool.not_eq_false', decide_eq_true_eq, decide_eq_false_iff_not, ne_eq, Decidable.not_not] at hg4 hg11
      first | refine a_ret Try.results39 ?_ | refine a_end Try.results39 ?_
      rw [hr, hstep]
      simp [*]
      try omega
    (first | refine a_val ?_ v_field | refine a_val ?_ v_fieldE | refine a_val ?_ v_field0 | refine a_skip ?_)
    (first | refine a_val ?_ v_load | refine a_val ?_ v_loadA | refine a_val ?_ (v_loadE hx) | refine a_val ?_ (v_loadE0 hx) | refine a_val ?_ (v_loadEA hx) | refine a_val ?_ (v_loadEA0 hx) | refine a_skip ?_)
    (first | refine a_val ?_ v_move | refine a_skip ?_)
    (first | refine a_val ?_ v_lss | refine a_skip ?_)
    (first | refine a_val ?_ v_pickt | refine a_val ?_ v_pickf)
    repeat (first | refine St.imp ?_ | (refine st_seq ?_; intro K hK) | refine st_t ?_ | refine st_f ?_ | refine st_miss ?_)
    try simp only [Bool.not_eq_true', Bool.not_eq_false', decide_eq_true_eq, decide_eq_false_iff_not, ne_eq, Decidable.not_not] at hg4 hg11
    refine a_cond (fun hc => ?_) (fun hc => ?_)
    · repeat (first | refine St.imp ?_ | (refine st_seq ?_; intro K hK) | refine st_t ?_ | refine st_f ?_ | refine st_miss ?_)
      refine a_val ?_ v_assign
      repeat (first | refine St.imp ?_ | (refine st_seq ?_; intro K hK) | refine st_t ?_ | refine st_f ?_ | refine st_miss ?_)
      first | refine a_ret Try.results39 ?_ | refine a_end Try.results39 ?_
      rw [hr, hstep]
      simp at hc
      simp [*]
      try omega
    repeat (first | refine St.imp ?_ | (refine st_seq ?_; intro K hK) | refine st_t ?_ | refine st_f ?_ | refine st_miss ?_)
    refine a_mix [0, 1, 2, 3, 4, 5] ?_
    (first | refine m_val rfl ?_ v_field | refine m_val rfl ?_ v_fieldE | refine m_val rfl ?_ v_field0)
    (first | refine m_val rfl ?_ v_load | refine m_val rfl ?_ v_loadA | refine m_val rfl ?_ (v_loadE hx) | refine m_val rfl ?_ (v_loadE0 hx) | refine m_val rfl ?_ (v_loadEA hx) | refine m_val rfl ?_ (v_loadEA0 hx))
    (first | refine m_val rfl ?_ v_field | refine m_val rfl ?_ v_fieldE | refine m_val rfl ?_ v_field0)
    (first | refine m_val rfl ?_ v_load | refine m_val rfl ?_ v_loadA | refine m_val rfl ?_ (v_loadE hx) | refine m_val rfl ?_ (v_loadE0 hx) | refine m_val rfl ?_ (v_loadEA hx) | refine m_val rfl ?_ (v_loadEA0 hx))
    refine m_val rfl ?_ v_assign
    refine m_val rfl ?_ v_assign
    repeat (first | refine St.imp ?_ | (refine st_seq ?_; intro K hK) | refine st_t ?_ | refine st_f ?_ | refine st_miss ?_)
    (first | refine a_val ?_ v_add | refine a_val ?_ v_cat)
    refine a_val ?_ v_move
    repeat (first | refine St.imp ?_ | (refine st_seq ?_; intro K hK) | refine st_t ?_ | refine st_f ?_ | refine st_miss ?_)
    simp at hc
    exact a_weak (hKL (x.index, x.term) (by omega) ⟨by rw [hr, hstep, show (j + 1).toNat = j.toNat + 1 by omega]; simp [*], by simp [goodB] at hg4; simp only; omega, by simp [goodB] at hg4; simp only; omega⟩)
  · repeat (first | refine St.imp ?_ | (refine st_seq ?_; intro K hK) | refine st_t ?_ | refine st_f ?_ | refine st_miss ?_)
    refine a_val ?_ v_assign
    repeat (first | refine St.imp ?_ | (refine st_seq ?_; intro K hK) | refine st_t ?_ | refine st_f ?_ | refine st_miss ?_)
    first | refine a_ret Try.results39 ?_ | refine a_end Try.results39 ?_
    have : j.toNat = l.length := by have : ¬ j < l.length := by simpa using hc
                                    omega
    rw [hr, this, List.drop_length, runsB]
theorem logMay_m (q : LogQ) (w : World) [hq : LogAt w (fpAll []) q] : Meets Try.prog 27 [.agg q.enc.toArray] w (fpAll []) (fun v _ => v = .bool (logB q.p)) := by
  refine enter tysOK Try.func27 rfl Try.ntmps27 rfl (HeapOK.start w) ?_
  repeat (first | refine St.imp ?_ | (refine st_seq ?_; intro K hK) | refine st_t ?_ | refine st_f ?_ | refine st_miss ?_)
  (refine a_eff ?_ e_box; rintro _ _ ⟨bz, rfl, rfl⟩)
  refine a_val ?_ v_assign
  repeat (first | refine St.imp ?_ | (refine st_seq ?_; intro K hK) | refine st_t ?_ | refine st_f ?_ | refine st_miss ?_)
  (first | refine a_val ?_ v_field | refine a_val ?_ v_fieldE | refine a_val ?_ v_field0)
  (first | refine a_val ?_ v_load | refine a_val ?_ v_loadA)
  refine a_val ?_ v_geq
  refine a_val ?_ v_move
  refine a_case (fun hg4 => ?_) (fun hg4 => ?_)
  rotate_left
  · repeat (first | refine a_skip ?_ | refine a_skipn ?_ | refine a_val ?_ v_pickt | refine a_val ?_ v_pickf | refine a_val ?_ v_move | refine a_val ?_ v_assign | refine St.imp ?_ | refine st_t ?_ | refine st_f ?_ | refine st_miss ?_ | (refine st_seq ?_; intro K hK))
    try simp only [Bool.not_eq_true', Bool.not_eq_false', decide_eq_true_eq, decide_eq_false_iff_not, ne_eq, Decidable.not_not] at hg4
    first | refine a_ret Try.results27 ?_ | refine a_end Try.results27 ?_
    simp [logB, LogQ.p, *]
  (first | refine a_val ?_ v_field | refine a_val ?_ v_fieldE | refine a_val ?_ v_field0 | refine a_skip ?_)
  (first | refine a_val ?_ v_load | refine a_val ?_ v_loadA | refine a_skip ?_)
  (first | refine a_val ?_ v_leq | refine a_skip ?_)
  (first | refine a_val ?_ v_pickt | refine a_val ?_ v_pickf)
  refine a_val ?_ v_move
  refine a_case (fun hg9 => ?_) (fun hg9 => ?_)
  rotate_left
  · repeat (first | refine a_skip ?_ | refine a_skipn ?_ | refine a_val ?_ v_pickt | refine a_val ?_ v_pickf | refine a_val ?_ v_move | refine a_val ?_ v_assign | refine St.imp ?_ | refine st_t ?_ | refine st_f ?_ | refine st_miss ?_ | (refine st_seq ?_; intro K hK))
    try simp only [Bool.not_eq_true', Bool.not_eq_false', decide_eq_true_eq, decide_eq_false_iff_not, ne_eq, Decidable.not_not] at hg4 hg9
    first | refine a_ret Try.results27 ?_ | refine a_end Try.results27 ?_
    simp [logB, LogQ.p, *]
  (first | refine a_val ?_ v_field | refine a_val ?_ v_fieldE | refine a_val ?_ v_field0 | refine a_skip ?_)
  (first | refine a_val ?_ v_load | refine a_val ?_ v_loadA | refine a_skip ?_)
  (first | (refine a_eff ?_ (e_callP rfl rfl fun w hw => term_m _ w); rintro _ _ ⟨rfl, rfl⟩) | refine a_skip ?_)
  (first | refine a_val ?_ v_pickt | refine a_val ?_ v_pickf)
  refine a_val ?_ v_move
  refine a_case (fun hg14 => ?_) (fun hg14 => ?_)
  rotate_left
  · repeat (first | refine a_skip ?_ | refine a_skipn ?_ | refine a_val ?_ v_pickt | refine a_val ?_ v_pickf | refine a_val ?_ v_move | refine a_val ?_ v_assign | refine St.imp ?_ | refine st_t ?_ | refine st_f ?_ | refine st_miss ?_ | (refine st_seq ?_; intro K hK))
    try simp only [Bool.not_eq_true', Bool.not_eq_false', decide_eq_true_eq, decide_eq_false_iff_not, ne_eq, Decidable.not_not] at hg4 hg9 hg14
    first | refine a_ret Try.results27 ?_ | refine a_end Try.results27 ?_
    simp [logB, LogQ.p, *]
  (first | refine a_val ?_ v_field | refine a_val ?_ v_fieldE | refine a_val ?_ v_field0 | refine a_skip ?_)
  (first | refine a_val ?_ v_load | refine a_val ?_ v_loadA | refine a_skip ?_)
  (first | refine a_val ?_ v_len | refine a_val ?_ v_lenS | refine a_skip ?_)
  (first | refine a_val ?_ v_leq | refine a_skip ?_)
  (first | refine a_val ?_ v_pickt | refine a_val ?_ v_pickf)
  refine a_val ?_ v_move
  try simp only [Bool.not_eq_true', Bool.not_eq_false', decide_eq_true_eq, decide_eq_false_iff_not, ne_eq, Decidable.not_not] at hg4 hg9 hg14
  refine a_case (fun hg20 => ?_) (fun hg20 => ?_)
  rotate_left
  · repeat (first | refine a_skip ?_ | refine a_skipn ?_ | refine a_val ?_ v_pickt | refine a_val ?_ v_pickf | refine a_val ?_ v_move | refine a_val ?_ v_assign | refine St.imp ?_ | refine st_t ?_ | refine st_f ?_ | refine st_miss ?_ | (refine st_seq ?_; intro K hK))
    first | refine a_ret Try.results27 ?_ | refine a_end Try.results27 ?_
    simp [logB, LogQ.p, *]
  have hb : 0 ≤ q.base ∧ q.base ≤ 1099511627776 := by omega
  (first | refine a_val ?_ v_field | refine a_val ?_ v_fieldE | refine a_val ?_ v_field0 | refine a_skip ?_)
  (first | refine a_val ?_ v_load | refine a_val ?_ v_loadA | refine a_skip ?_)
  (first | refine a_val ?_ v_field | refine a_val ?_ v_fieldE | refine a_val ?_ v_field0 | refine a_skip ?_)
  (first | refine a_val ?_ v_load | refine a_val ?_ v_loadA | refine a_skip ?_)
  (first | refine a_val ?_ v_field | refine a_val ?_ v_fieldE | refine a_val ?_ v_field0 | refine a_skip ?_)
  (first | refine a_val ?_ v_load | refine a_val ?_ v_loadA | refine a_skip ?_)
  (first | (refine a_eff ?_ (e_callP rfl rfl fun w hw => follow_m _ _ _ _ _ w hb); rintro _ _ ⟨rfl, rfl⟩) | refine a_skip ?_)
  (first | refine a_val ?_ v_pickt | refine a_val ?_ v_pickf)
  refine a_val ?_ v_assign
  repeat (first | refine St.imp ?_ | (refine st_seq ?_; intro K hK) | refine st_t ?_ | refine st_f ?_ | refine st_miss ?_)
  first | refine a_ret Try.results27 ?_ | refine a_end Try.results27 ?_
  simp [logB, LogQ.p, *]
theorem within_m (n lo hi : Int) (l : List Int) (A : Option Addr) (c : Nat) (w : World) [hl : Sl w (fpAll []) ints 1 l A c] : Meets Try.prog 40 [.int .i64 n, .int .i64 lo, .int .i64 hi, .slice A l.length c] w (fpAll []) (fun v _ => v = .bool (withinB n lo hi l)) := by
  refine enter tysOK Try.func40 rfl Try.ntmps40 rfl (HeapOK.start w) ?_
  have hlen := hl.len
  repeat (first | refine St.imp ?_ | (refine st_seq ?_; intro K hK) | refine st_t ?_ | refine st_f ?_ | refine st_miss ?_)
  refine a_val ?_ v_assign
  repeat (first | refine St.imp ?_ | (refine st_seq ?_; intro K hK) | refine st_t ?_ | refine st_f ?_ | refine st_miss ?_)
  refine a_val ?_ v_move
  (first | refine a_val ?_ v_len | refine a_val ?_ v_lenS)
  refine a_val ?_ v_move
  repeat (first | refine St.imp ?_ | (refine st_seq ?_; intro K hK) | refine st_t ?_ | refine st_f ?_ | refine st_miss ?_)
  refine a_for l.length (fun j _ => [(11, .slice A l.length c), (12, .int .i64 l.length), (13, .int .i64 j), (0, .int .i64 n), (1, .int .i64 lo), (2, .int .i64 hi), (3, .slice A l.length c)]) (fun _ _ => []) (fun j _ => (l.take j.toNat).all (fun k => decide (lo ≤ k) && decide (k ≤ hi)) = true) () (by simp) ?_
  intro j _ h0 h1 hr KL hKL
  repeat (first | refine St.imp ?_ | (refine st_seq ?_; intro K hK) | refine st_t ?_ | refine st_f ?_ | refine st_miss ?_)
  refine a_val ?_ v_lss
  repeat (first | refine St.imp ?_ | (refine st_seq ?_; intro K hK) | refine st_t ?_ | refine st_f ?_ | refine st_miss ?_)
  refine a_cond (fun hc => ?_) (fun hc => ?_)
  · have hlt : j < l.length := by simpa using hc
    obtain ⟨x, hx⟩ := get_some (l := l) h0 hlt
    repeat (first | refine St.imp ?_ | (refine st_seq ?_; intro K hK) | refine st_t ?_ | refine st_f ?_ | refine st_miss ?_)
    repeat (first | refine St.imp ?_ | (refine st_seq ?_; intro K hK) | refine st_t ?_ | refine st_f ?_ | refine st_miss ?_)
    (first | refine a_val ?_ v_index | refine a_val ?_ v_indexB)
    (first | refine a_val ?_ v_load | refine a_val ?_ v_loadA | refine a_val ?_ (v_loadE hx) | refine a_val ?_ (v_loadE0 hx) | refine a_val ?_ (v_loadEA hx) | refine a_val ?_ (v_loadEA0 hx))
    refine a_val ?_ v_assign
    repeat (first | refine St.imp ?_ | (refine st_seq ?_; intro K hK) | refine st_t ?_ | refine st_f ?_ | refine st_miss ?_)
    refine a_val ?_ v_move
    refine a_val ?_ v_move
    refine a_val ?_ v_lss
    refine a_val ?_ v_move
    refine a_case (fun hg4 => ?_) (fun hg4 => ?_)
    · repeat (first | refine a_skip ?_ | refine a_skipn ?_ | refine a_val ?_ v_pickt | refine a_val ?_ v_pickf | refine a_val ?_ v_move | refine a_val ?_ v_assign | refine St.imp ?_ | refine st_t ?_ | refine st_f ?_ | refine st_miss ?_ | (refine st_seq ?_; intro K hK))
      try simp only [Bool.not_eq_true', Bool.not_eq_false', decide_eq_true_eq, decide_eq_false_iff_not, ne_eq, Decidable.not_not] at hg4
      first | refine a_ret Try.results40 ?_ | refine a_end Try.results40 ?_
      rw [withinB, all_no hx (by simp at *; omega)]
      rfl
    try simp only [Bool.not_eq_true', Bool.not_eq_false', decide_eq_true_eq, decide_eq_false_iff_not, ne_eq, Decidable.not_not] at hg4
    (first | refine a_val ?_ v_move | refine a_skip ?_)
    (first | refine a_val ?_ v_move | refine a_skip ?_)
    (first | refine a_val ?_ v_gtr | refine a_skip ?_)
    (first | refine a_val ?_ v_pickt | refine a_val ?_ v_pickf)
    repeat (first | refine St.imp ?_ | (refine st_seq ?_; intro K hK) | refine st_t ?_ | refine st_f ?_ | refine st_miss ?_)
    refine a_cond (fun hc => ?_) (fun hc => ?_)
    · repeat (first | refine St.imp ?_ | (refine st_seq ?_; intro K hK) | refine st_t ?_ | refine st_f ?_ | refine st_miss ?_)
      refine a_val ?_ v_assign
      repeat (first | refine St.imp ?_ | (refine st_seq ?_; intro K hK) | refine st_t ?_ | refine st_f ?_ | refine st_miss ?_)
      first | refine a_ret Try.results40 ?_ | refine a_end Try.results40 ?_
      rw [withinB, all_no hx (by simp at *; omega)]
      rfl
    repeat (first | refine St.imp ?_ | (refine st_seq ?_; intro K hK) | refine st_t ?_ | refine st_f ?_ | refine st_miss ?_)
    (first | refine a_val ?_ v_add | refine a_val ?_ v_cat)
    refine a_val ?_ v_move
    repeat (first | refine St.imp ?_ | (refine st_seq ?_; intro K hK) | refine st_t ?_ | refine st_f ?_ | refine st_miss ?_)
    exact a_weak (hKL () (by omega) (by rw [all_step h0 hx, hr]; simp at *; omega))
  · repeat (first | refine St.imp ?_ | (refine st_seq ?_; intro K hK) | refine st_t ?_ | refine st_f ?_ | refine st_miss ?_)
    refine a_val ?_ v_move
    (first | refine a_val ?_ v_len | refine a_val ?_ v_lenS)
    refine a_val ?_ v_move
    (first | refine a_val ?_ v_eql | refine a_val ?_ v_seql | refine a_val ?_ v_beql | refine a_val ?_ v_isNil)
    refine a_val ?_ v_assign
    repeat (first | refine St.imp ?_ | (refine st_seq ?_; intro K hK) | refine st_t ?_ | refine st_f ?_ | refine st_miss ?_)
    first | refine a_ret Try.results40 ?_ | refine a_end Try.results40 ?_
    have : ¬ j < l.length := by simpa using hc
    rw [withinB, all_end hr this]
    simp
theorem rising_m (nodes : Int) (l : List Int) (A : Option Addr) (c : Nat) (w : World) [hl : Sl w (fpAll []) ints 1 l A c] : Meets Try.prog 28 [.int .i64 nodes, .slice A l.length c] w (fpAll []) (fun v _ => v = .bool (risingB nodes l)) := by
  refine enter tysOK Try.func28 rfl Try.ntmps28 rfl (HeapOK.start w) ?_
  have hlen := hl.len
  repeat (first | refine St.imp ?_ | (refine st_seq ?_; intro K hK) | refine st_t ?_ | refine st_f ?_ | refine st_miss ?_)
  refine a_val ?_ v_assign
  repeat (first | refine St.imp ?_ | (refine st_seq ?_; intro K hK) | refine st_t ?_ | refine st_f ?_ | refine st_miss ?_)
  refine a_val ?_ v_move
  (first | refine a_val ?_ v_len | refine a_val ?_ v_lenS)
  refine a_val ?_ v_move
  repeat (first | refine St.imp ?_ | (refine st_seq ?_; intro K hK) | refine st_t ?_ | refine st_f ?_ | refine st_miss ?_)
  refine a_for l.length (fun j _ => [(7, .slice A l.length c), (8, .int .i64 l.length), (9, .int .i64 j), (0, .int .i64 nodes), (1, .slice A l.length c)]) (fun _ _ => []) (fun j _ => ∀ (k : Nat) (x : Int), k < j.toNat → l[k]? = some x → 1 ≤ x ∧ x ≤ nodes ∧ ∀ (j : Nat) (y : Int), k = j + 1 → l[j]? = some y → y < x) () (fun k x hk => absurd hk (by simp)) ?_
  intro j _ h0 h1 hr KL hKL
  repeat (first | refine St.imp ?_ | (refine st_seq ?_; intro K hK) | refine st_t ?_ | refine st_f ?_ | refine st_miss ?_)
  refine a_val ?_ v_lss
  repeat (first | refine St.imp ?_ | (refine st_seq ?_; intro K hK) | refine st_t ?_ | refine st_f ?_ | refine st_miss ?_)
  refine a_cond (fun hc => ?_) (fun hc => ?_)
  · have hlt : j < l.length := by simpa using hc
    obtain ⟨x, hx⟩ := get_some (l := l) h0 hlt
    have hno : ∀ (h : risingB nodes l = true), 1 ≤ x ∧ x ≤ nodes ∧ ∀ (k : Nat) (y : Int), j.toNat = k + 1 → l[k]? = some y → y < x := fun h => (rising_iff nodes l).1 h _ x hx
    repeat (first | refine St.imp ?_ | (refine st_seq ?_; intro K hK) | refine st_t ?_ | refine st_f ?_ | refine st_miss ?_)
    repeat (first | refine St.imp ?_ | (refine st_seq ?_; intro K hK) | refine st_t ?_ | refine st_f ?_ | refine st_miss ?_)
    refine a_val ?_ v_move
    (first | refine a_val ?_ v_index | refine a_val ?_ v_indexB)
    (first | refine a_val ?_ v_load | refine a_val ?_ v_loadA | refine a_val ?_ (v_loadE hx) | refine a_val ?_ (v_loadE0 hx) | refine a_val ?_ (v_loadEA hx) | refine a_val ?_ (v_loadEA0 hx))
    refine a_val ?_ v_assign
    refine a_val ?_ v_assign
    repeat (first | refine St.imp ?_ | (refine st_seq ?_; intro K hK) | refine st_t ?_ | refine st_f ?_ | refine st_miss ?_)
    refine a_val ?_ v_move
    refine a_val ?_ v_lss
    refine a_val ?_ v_move
    refine a_case (fun hg3 => ?_) (fun hg3 => ?_)
    · repeat (first | refine a_skip ?_ | refine a_skipn ?_ | refine a_val ?_ v_pickt | refine a_val ?_ v_pickf | refine a_val ?_ v_move | refine a_val ?_ v_assign | refine St.imp ?_ | refine st_t ?_ | refine st_f ?_ | refine st_miss ?_ | (refine st_seq ?_; intro K hK))
      try simp only [Bool.not_eq_true', Bool.not_eq_false', decide_eq_true_eq, decide_eq_false_iff_not, ne_eq, Decidable.not_not] at hg3
      first | refine a_ret Try.results28 ?_ | refine a_end Try.results28 ?_
      congr 1
      symm
      rw [← Bool.not_eq_true]
      intro h
      have := hno h
      simp at *
      omega
    (first | refine a_val ?_ v_move | refine a_skip ?_)
    (first | refine a_val ?_ v_move | refine a_skip ?_)
    (first | refine a_val ?_ v_gtr | refine a_skip ?_)
    (first | refine a_val ?_ v_pickt | refine a_val ?_ v_pickf)
    refine a_val ?_ v_move
    try simp only [Bool.not_eq_true', Bool.not_eq_false', decide_eq_true_eq, decide_eq_false_iff_not, ne_eq, Decidable.not_not] at hg3
    refine a_case (fun hg8 => ?_) (fun hg8 => ?_)
    · repeat (first | refine a_skip ?_ | refine a_skipn ?_ | refine a_val ?_ v_pickt | refine a_val ?_ v_pickf | refine a_val ?_ v_move | refine a_val ?_ v_assign | refine St.imp ?_ | refine st_t ?_ | refine st_f ?_ | refine st_miss ?_ | (refine st_seq ?_; intro K hK))
      first | refine a_ret Try.results28 ?_ | refine a_end Try.results28 ?_
      congr 1
      symm
      rw [← Bool.not_eq_true]
      intro h
      have := hno h
      simp at *
      omega
    (first | refine a_val ?_ v_move | refine a_skip ?_)
    (first | refine a_val ?_ v_gtr | refine a_skip ?_)
    (first | refine a_val ?_ v_move | refine a_skip ?_)
    refine a_case (fun hg11 => ?_) (fun hg11 => ?_)
    · have hj : 0 < j := by simpa using hg11
      obtain ⟨y, hy⟩ := get_some (l := l) (j := j - 1) (by omega) (by omega)
      (first | refine a_val ?_ v_move | refine a_skip ?_)
      (first | refine a_val ?_ v_move | refine a_skip ?_)
      (first | refine a_val ?_ v_sub | refine a_skip ?_)
      (first | refine a_val ?_ v_index | refine a_val ?_ v_indexB | refine a_skip ?_)
      (first | refine a_val ?_ v_load | refine a_val ?_ v_loadA | refine a_val ?_ (v_loadE hy) | refine a_val ?_ (v_loadE0 hy) | refine a_val ?_ (v_loadEA hy) | refine a_val ?_ (v_loadEA0 hy) | refine a_skip ?_)
      (first | refine a_val ?_ v_move | refine a_skip ?_)
      (first | refine a_val ?_ v_geq | refine a_skip ?_)
      (first | refine a_val ?_ v_pickt | refine a_val ?_ v_pickf | refine a_skip ?_)
      (first | refine a_val ?_ v_pickt | refine a_val ?_ v_pickf)
      repeat (first | refine St.imp ?_ | (refine st_seq ?_; intro K hK) | refine st_t ?_ | refine st_f ?_ | refine st_miss ?_)
      refine a_cond (fun hc => ?_) (fun hc => ?_)
      · repeat (first | refine St.imp ?_ | (refine st_seq ?_; intro K hK) | refine st_t ?_ | refine st_f ?_ | refine st_miss ?_)
        refine a_val ?_ v_assign
        repeat (first | refine St.imp ?_ | (refine st_seq ?_; intro K hK) | refine st_t ?_ | refine st_f ?_ | refine st_miss ?_)
        first | refine a_ret Try.results28 ?_ | refine a_end Try.results28 ?_
        congr 1
        symm
        rw [← Bool.not_eq_true]
        intro h
        have h2 := (hno h).2.2 (j - 1).toNat y (by omega) hy
        simp at hc
        omega
      repeat (first | refine St.imp ?_ | (refine st_seq ?_; intro K hK) | refine st_t ?_ | refine st_f ?_ | refine st_miss ?_)
      (first | refine a_val ?_ v_add | refine a_val ?_ v_cat)
      refine a_val ?_ v_move
      repeat (first | refine St.imp ?_ | (refine st_seq ?_; intro K hK) | refine st_t ?_ | refine st_f ?_ | refine st_miss ?_)
      refine a_weak (hKL () (by omega) ?_)
      intro k z hk hz
      by_cases e : k = j.toNat
      · subst e
        rw [hx] at hz
        injection hz with hz
        subst hz
        simp at *
        refine ⟨by omega, by omega, fun i u hi hu => ?_⟩
        have : i = (j - 1).toNat := by omega
        subst this
        have e9 : (j - 1).toNat = j.toNat - 1 := by omega
        rw [e9, hy] at hu
        injection hu with hu
        omega
      · exact hr k z (by omega) hz
    · have hj : ¬ 0 < j := by simpa using hg11
      (first | refine a_val ?_ v_move | refine a_skip ?_)
      (first | refine a_val ?_ v_move | refine a_skip ?_)
      (first | refine a_val ?_ v_sub | refine a_skip ?_)
      (first | refine a_val ?_ v_index | refine a_val ?_ v_indexB | refine a_skip ?_)
      (first | refine a_val ?_ v_load | refine a_val ?_ v_loadA | refine a_val ?_ (v_loadE hy) | refine a_val ?_ (v_loadE0 hy) | refine a_val ?_ (v_loadEA hy) | refine a_val ?_ (v_loadEA0 hy) | refine a_skip ?_)
      (first | refine a_val ?_ v_move | refine a_skip ?_)
      (first | refine a_val ?_ v_geq | refine a_skip ?_)
      (first | refine a_val ?_ v_pickt | refine a_val ?_ v_pickf | refine a_skip ?_)
      (first | refine a_val ?_ v_pickt | refine a_val ?_ v_pickf)
      repeat (first | refine St.imp ?_ | (refine st_seq ?_; intro K hK) | refine st_t ?_ | refine st_f ?_ | refine st_miss ?_)
      (first | refine a_val ?_ v_add | refine a_val ?_ v_cat)
      refine a_val ?_ v_move
      repeat (first | refine St.imp ?_ | (refine st_seq ?_; intro K hK) | refine st_t ?_ | refine st_f ?_ | refine st_miss ?_)
      refine a_weak (hKL () (by omega) ?_)
      intro k z hk hz
      have e : k = j.toNat := by omega
      subst e
      rw [hx] at hz
      injection hz with hz
      subst hz
      simp at *
      exact ⟨by omega, by omega, fun i u hi hu => by omega⟩
  · repeat (first | refine St.imp ?_ | (refine st_seq ?_; intro K hK) | refine st_t ?_ | refine st_f ?_ | refine st_miss ?_)
    refine a_val ?_ v_assign
    repeat (first | refine St.imp ?_ | (refine st_seq ?_; intro K hK) | refine st_t ?_ | refine st_f ?_ | refine st_miss ?_)
    first | refine a_ret Try.results28 ?_ | refine a_end Try.results28 ?_
    have : ¬ j < l.length := by simpa using hc
    congr 1
    symm
    rw [rising_iff]
    intro k x hx
    exact hr k x (by have := (List.getElem?_eq_some_iff.1 hx).1; omega) hx
theorem end_m (q : LogQ) (w : World) [hq : LogAt w (fpAll []) q] : Meets Try.prog 25 [.agg q.enc.toArray] w (fpAll []) (fun v _ => v = .tuple #[.int .i64 q.p.endI, .int .i64 q.p.endT]) := by
  have hl := hq.sl
  have hlen := hl.len
  refine enter tysOK Try.func25 rfl Try.ntmps25 rfl (HeapOK.start w) ?_
  repeat (first | refine St.imp ?_ | (refine st_seq ?_; intro K hK) | refine st_t ?_ | refine st_f ?_ | refine st_miss ?_)
  (refine a_eff ?_ e_box; rintro _ _ ⟨bz, rfl, rfl⟩)
  refine a_val ?_ v_assign
  refine a_val ?_ v_assign
  repeat (first | refine St.imp ?_ | (refine st_seq ?_; intro K hK) | refine st_t ?_ | refine st_f ?_ | refine st_miss ?_)
  (first | refine a_val ?_ v_field | refine a_val ?_ v_fieldE | refine a_val ?_ v_field0)
  (first | refine a_val ?_ v_load | refine a_val ?_ v_loadA)
  (first | refine a_val ?_ v_len | refine a_val ?_ v_lenS)
  refine a_val ?_ v_assign
  repeat (first | refine St.imp ?_ | (refine st_seq ?_; intro K hK) | refine st_t ?_ | refine st_f ?_ | refine st_miss ?_)
  refine a_val ?_ v_move
  refine a_val ?_ v_gtr
  repeat (first | refine St.imp ?_ | (refine st_seq ?_; intro K hK) | refine st_t ?_ | refine st_f ?_ | refine st_miss ?_)
  refine a_cond (fun hc => ?_) (fun hc => ?_)
  · have hpos : 0 < q.ents.l.length := by simpa using hc
    obtain ⟨x, hx⟩ := get_some (l := q.ents.l) (j := (q.ents.l.length : Int) - 1) (by omega) (by omega)
    repeat (first | refine St.imp ?_ | (refine st_seq ?_; intro K hK) | refine st_t ?_ | refine st_f ?_ | refine st_miss ?_)
    refine a_mix [0, 1, 2, 3, 4, 5, 6, 7, 8, 9, 10, 11, 12, 13, 14, 15] ?_
    (first | refine m_val rfl ?_ v_field | refine m_val rfl ?_ v_fieldE | refine m_val rfl ?_ v_field0)
    (first | refine m_val rfl ?_ v_load | refine m_val rfl ?_ v_loadA | refine m_val rfl ?_ (v_loadE hx) | refine m_val rfl ?_ (v_loadE0 hx) | refine m_val rfl ?_ (v_loadEA hx) | refine m_val rfl ?_ (v_loadEA0 hx))
    refine m_val rfl ?_ v_move
    refine m_val rfl ?_ v_sub
    (first | refine m_val rfl ?_ v_index | refine m_val rfl ?_ v_indexB)
    (first | refine m_val rfl ?_ v_field | refine m_val rfl ?_ v_fieldE | refine m_val rfl ?_ v_field0)
    (first | refine m_val rfl ?_ v_load | refine m_val rfl ?_ v_loadA | refine m_val rfl ?_ (v_loadE hx) | refine m_val rfl ?_ (v_loadE0 hx) | refine m_val rfl ?_ (v_loadEA hx) | refine m_val rfl ?_ (v_loadEA0 hx))
    (first | refine m_val rfl ?_ v_field | refine m_val rfl ?_ v_fieldE | refine m_val rfl ?_ v_field0)
    (first | refine m_val rfl ?_ v_load | refine m_val rfl ?_ v_loadA | refine m_val rfl ?_ (v_loadE hx) | refine m_val rfl ?_ (v_loadE0 hx) | refine m_val rfl ?_ (v_loadEA hx) | refine m_val rfl ?_ (v_loadEA0 hx))
    refine m_val rfl ?_ v_move
    refine m_val rfl ?_ v_sub
    (first | refine m_val rfl ?_ v_index | refine m_val rfl ?_ v_indexB)
    (first | refine m_val rfl ?_ v_field | refine m_val rfl ?_ v_fieldE | refine m_val rfl ?_ v_field0)
    (first | refine m_val rfl ?_ v_load | refine m_val rfl ?_ v_loadA | refine m_val rfl ?_ (v_loadE hx) | refine m_val rfl ?_ (v_loadE0 hx) | refine m_val rfl ?_ (v_loadEA hx) | refine m_val rfl ?_ (v_loadEA0 hx))
    refine m_val rfl ?_ v_assign
    refine m_val rfl ?_ v_assign
    repeat (first | refine St.imp ?_ | (refine st_seq ?_; intro K hK) | refine st_t ?_ | refine st_f ?_ | refine st_miss ?_)
    first | refine a_ret Try.results25 ?_ | refine a_end Try.results25 ?_
    have h1 : q.ents.l.getLast? = some x := by
      rw [List.getLast?_eq_getElem?, ← hx]
      congr 1
      omega
    simp [Log.endI, Log.endT, LogQ.p, h1]
  · repeat (first | refine St.imp ?_ | (refine st_seq ?_; intro K hK) | refine st_t ?_ | refine st_f ?_ | refine st_miss ?_)
    refine a_mix [0, 1, 2, 3, 4, 5] ?_
    (first | refine m_val rfl ?_ v_field | refine m_val rfl ?_ v_fieldE | refine m_val rfl ?_ v_field0)
    (first | refine m_val rfl ?_ v_load | refine m_val rfl ?_ v_loadA | refine m_val rfl ?_ (v_loadE hx) | refine m_val rfl ?_ (v_loadE0 hx) | refine m_val rfl ?_ (v_loadEA hx) | refine m_val rfl ?_ (v_loadEA0 hx))
    (first | refine m_val rfl ?_ v_field | refine m_val rfl ?_ v_fieldE | refine m_val rfl ?_ v_field0)
    (first | refine m_val rfl ?_ v_load | refine m_val rfl ?_ v_loadA | refine m_val rfl ?_ (v_loadE hx) | refine m_val rfl ?_ (v_loadE0 hx) | refine m_val rfl ?_ (v_loadEA hx) | refine m_val rfl ?_ (v_loadEA0 hx))
    refine m_val rfl ?_ v_assign
    refine m_val rfl ?_ v_assign
    repeat (first | refine St.imp ?_ | (refine st_seq ?_; intro K hK) | refine st_t ?_ | refine st_f ?_ | refine st_miss ?_)
    first | refine a_ret Try.results25 ?_ | refine a_end Try.results25 ?_
    have h1 : q.ents.l = [] := by
      have : ¬ 0 < q.ents.l.length := by simpa using hc
      exact List.eq_nil_of_length_eq_zero (by omega)
    simp [Log.endI, Log.endT, LogQ.p, h1]
theorem at_m (q : LogQ) (i : Int) (w : World) [hq : LogAt w (fpAll []) q] (hi : -1099511627780 ≤ i ∧ i ≤ 1099511627780) (hb : logB q.p = true) : Meets Try.prog 36 [.agg q.enc.toArray, .int .i64 i] w (fpAll []) (fun v _ => v = .tuple #[.int .i64 (if q.p.endI < i then 0 else q.p.termAt i), .bool (q.p.hasB i)]) := by
  have hl := hq.sl
  have hlen := hl.len
  have hend := log_end hb
  have hbb : 0 ≤ q.base ∧ q.base ≤ 1099511625728 := by
    have h := hb
    simp [logB, LogQ.p] at h
    exact ⟨h.1, h.2.1⟩
  simp only [LogQ.p] at hend
  refine enter tysOK Try.func36 rfl Try.ntmps36 rfl (HeapOK.start w) ?_
  repeat (first | refine St.imp ?_ | (refine st_seq ?_; intro K hK) | refine st_t ?_ | refine st_f ?_ | refine st_miss ?_)
  (refine a_eff ?_ e_box; rintro _ _ ⟨bz, rfl, rfl⟩)
  refine a_val ?_ v_assign
  refine a_val ?_ v_assign
  repeat (first | refine St.imp ?_ | (refine st_seq ?_; intro K hK) | refine st_t ?_ | refine st_f ?_ | refine st_miss ?_)
  (first | refine a_val ?_ v_load | refine a_val ?_ v_loadA)
  (refine a_eff ?_ (e_callP rfl rfl fun w hw => end_m q w); rintro _ _ ⟨rfl, rfl⟩)
  refine a_val ?_ v_move
  refine a_val ?_ v_extract
  refine a_val ?_ v_extract
  refine a_val ?_ v_assign
  refine a_val ?_ v_assign
  repeat (first | refine St.imp ?_ | (refine st_seq ?_; intro K hK) | refine st_t ?_ | refine st_f ?_ | refine st_miss ?_)
  refine a_val ?_ v_move
  (first | refine a_val ?_ v_field | refine a_val ?_ v_fieldE | refine a_val ?_ v_field0)
  (first | refine a_val ?_ v_load | refine a_val ?_ v_loadA)
  (first | refine a_val ?_ v_eql | refine a_val ?_ v_seql | refine a_val ?_ v_beql | refine a_val ?_ v_isNil)
  refine a_val ?_ v_assign
  repeat (first | refine St.imp ?_ | (refine st_seq ?_; intro K hK) | refine st_t ?_ | refine st_f ?_ | refine st_miss ?_)
  refine a_cond (fun hc => ?_) (fun hc => ?_)
  · repeat (first | refine St.imp ?_ | (refine st_seq ?_; intro K hK) | refine st_t ?_ | refine st_f ?_ | refine st_miss ?_)
    (first | refine a_val ?_ v_field | refine a_val ?_ v_fieldE | refine a_val ?_ v_field0)
    (first | refine a_val ?_ v_load | refine a_val ?_ v_loadA)
    refine a_val ?_ v_assign
    refine a_val ?_ v_assign
    repeat (first | refine St.imp ?_ | (refine st_seq ?_; intro K hK) | refine st_t ?_ | refine st_f ?_ | refine st_miss ?_)
    first | refine a_ret Try.results36 ?_ | refine a_end Try.results36 ?_
    have : i = q.base := by simpa using hc
    subst this
    simp [Log.termAt, Log.hasB, LogQ.p, hend]
    try omega
  have hne : i ≠ q.base := by simpa using hc
  repeat (first | refine St.imp ?_ | (refine st_seq ?_; intro K hK) | refine st_t ?_ | refine st_f ?_ | refine st_miss ?_)
  repeat (first | refine St.imp ?_ | (refine st_seq ?_; intro K hK) | refine st_t ?_ | refine st_f ?_ | refine st_miss ?_)
  refine a_val ?_ v_move
  (first | refine a_val ?_ v_field | refine a_val ?_ v_fieldE | refine a_val ?_ v_field0)
  (first | refine a_val ?_ v_load | refine a_val ?_ v_loadA)
  refine a_val ?_ v_lss
  refine a_val ?_ v_move
  refine a_case (fun hg => ?_) (fun hg => ?_)
  · repeat (first | refine a_skip ?_ | refine a_skipn ?_ | refine a_val ?_ v_pickt | refine a_val ?_ v_pickf | refine a_val ?_ v_move | refine a_val ?_ v_assign | refine St.imp ?_ | refine st_t ?_ | refine st_f ?_ | refine st_miss ?_ | (refine st_seq ?_; intro K hK))
    first | refine a_ret Try.results36 ?_ | refine a_end Try.results36 ?_
    have : i < q.base := by simpa using hg
    have h2 : ¬ q.base ≤ i := by omega
    simp [Log.termAt, Log.hasB, LogQ.p, hne, this, h2]
  have hge : ¬ i < q.base := by simpa using hg
  (first | refine a_val ?_ v_move | refine a_skip ?_)
  (first | refine a_val ?_ v_move | refine a_skip ?_)
  (first | refine a_val ?_ v_gtr | refine a_skip ?_)
  (first | refine a_val ?_ v_pickt | refine a_val ?_ v_pickf)
  refine a_val ?_ v_assign
  repeat (first | refine St.imp ?_ | (refine st_seq ?_; intro K hK) | refine st_t ?_ | refine st_f ?_ | refine st_miss ?_)
  refine a_cond (fun hc => ?_) (fun hc => ?_)
  · repeat (first | refine St.imp ?_ | (refine st_seq ?_; intro K hK) | refine st_t ?_ | refine st_f ?_ | refine st_miss ?_)
    refine a_val ?_ v_assign
    refine a_val ?_ v_assign
    repeat (first | refine St.imp ?_ | (refine st_seq ?_; intro K hK) | refine st_t ?_ | refine st_f ?_ | refine st_miss ?_)
    first | refine a_ret Try.results36 ?_ | refine a_end Try.results36 ?_
    have : q.p.endI < i := by simpa using hc
    simp [Log.hasB, this]
  have hle : ¬ q.p.endI < i := by simpa using hc
  simp only [LogQ.p] at hle
  obtain ⟨x, hx⟩ := get_some (l := q.ents.l) (j := i - q.base - 1) (by omega) (by omega)
  repeat (first | refine St.imp ?_ | (refine st_seq ?_; intro K hK) | refine st_t ?_ | refine st_f ?_ | refine st_miss ?_)
  repeat (first | refine St.imp ?_ | (refine st_seq ?_; intro K hK) | refine st_t ?_ | refine st_f ?_ | refine st_miss ?_)
  (first | refine a_val ?_ v_field | refine a_val ?_ v_fieldE | refine a_val ?_ v_field0)
  (first | refine a_val ?_ v_load | refine a_val ?_ v_loadA | refine a_val ?_ (v_loadE hx) | refine a_val ?_ (v_loadE0 hx) | refine a_val ?_ (v_loadEA hx) | refine a_val ?_ (v_loadEA0 hx))
  refine a_val ?_ v_move
  (first | refine a_val ?_ v_field | refine a_val ?_ v_fieldE | refine a_val ?_ v_field0)
  (first | refine a_val ?_ v_load | refine a_val ?_ v_loadA | refine a_val ?_ (v_loadE hx) | refine a_val ?_ (v_loadE0 hx) | refine a_val ?_ (v_loadEA hx) | refine a_val ?_ (v_loadEA0 hx))
  refine a_val ?_ v_sub
  refine a_val ?_ v_sub
  (first | refine a_val ?_ v_index | refine a_val ?_ v_indexB)
  (first | refine a_val ?_ v_field | refine a_val ?_ v_fieldE | refine a_val ?_ v_field0)
  (first | refine a_val ?_ v_load | refine a_val ?_ v_loadA | refine a_val ?_ (v_loadE hx) | refine a_val ?_ (v_loadE0 hx) | refine a_val ?_ (v_loadEA hx) | refine a_val ?_ (v_loadEA0 hx))
  refine a_val ?_ v_assign
  refine a_val ?_ v_assign
  repeat (first | refine St.imp ?_ | (refine st_seq ?_; intro K hK) | refine st_t ?_ | refine st_f ?_ | refine st_miss ?_)
  first | refine a_ret Try.results36 ?_ | refine a_end Try.results36 ?_
  have hle' : ¬ q.p.endI < i := hle
  have e1 : q.p.termAt i = x.term := by simp only [Log.termAt, LogQ.p]; rw [if_neg hne, if_neg hge, hx]
  have e2 : q.p.hasB i = true := by
    simp only [Log.hasB, Bool.and_eq_true, decide_eq_true_eq]
    exact ⟨by omega, by omega⟩
  rw [if_neg hle', e1, e2]
end Go.Proofs.Ytaclpbkbjmbceaa

/-
  RAFT: what a state may be.
-/
import Derived.Test.YtaclpbkbjmbceaaRa
set_option linter.unusedVariables false
set_option linter.unusedSimpArgs false
set_option maxRecDepth 100000
set_option maxHeartbeats 2000000
namespace Go.Proofs.Ytaclpbkbjmbceaa
open Go.Eng
theorem leads_m (R : RaftQ) (w : World) [hR : RaftAt w (fpAll []) R] (hlog : logB R.p.log = true) : Meets Try.prog 29 [.agg R.enc.toArray] w (fpAll []) (fun v _ => v = .bool (leadsB R.p)) := by
  have hlr := hR.reads.sl.len
  have hend : R.log.p.endI = R.log.base + R.log.ents.l.length := log_end hlog
  have hbb : 0 ≤ R.log.base ∧ R.log.base ≤ 1099511625728 ∧ (R.log.ents.l.length : Int) ≤ 512 := by
    have h := hlog
    simp [logB] at h
    exact ⟨h.1, h.2.1, h.2.2.2.1⟩
  refine enter tysOK Try.func29 rfl Try.ntmps29 rfl (HeapOK.start w) ?_
  repeat (first | refine St.imp ?_ | (refine st_seq ?_; intro K hK) | refine st_t ?_ | refine st_f ?_ | refine st_miss ?_)
  (refine a_eff ?_ e_box; rintro _ _ ⟨bz, rfl, rfl⟩)
  refine a_val ?_ v_assign
  repeat (first | refine St.imp ?_ | (refine st_seq ?_; intro K hK) | refine st_t ?_ | refine st_f ?_ | refine st_miss ?_)
  rename Nat => b1
  repeat (first | refine St.imp ?_ | (refine st_seq ?_; intro K hK) | refine st_t ?_ | refine st_f ?_ | refine st_miss ?_)
  refine a_val ?_ v_assign
  repeat (first | refine St.imp ?_ | (refine st_seq ?_; intro K hK) | refine st_t ?_ | refine st_f ?_ | refine st_miss ?_)
  (first | refine a_val ?_ v_field | refine a_val ?_ v_fieldE | refine a_val ?_ v_field0)
  (first | refine a_val ?_ v_load | refine a_val ?_ v_loadA)
  (first | refine a_val ?_ v_eql | refine a_val ?_ v_seql | refine a_val ?_ v_beql | refine a_val ?_ v_isNil)
  repeat (first | refine St.imp ?_ | (refine st_seq ?_; intro K hK) | refine st_t ?_ | refine st_f ?_ | refine st_miss ?_)
  refine tc_cond_join (σ := Unit) (fun _ => [(3, .int .i64 R.p.led), (1, .pointer (some ⟨b1, 0, none⟩))]) (fun _ => [.blk b1 R.enc 32]) (fun _ => R.role = 2 ∨ R.reads.l.length = 0) rfl (fun hc J hJ => ?_) (fun hc J hJ => ?_) ?_
  · have hr2 : R.role = 2 := by simpa using hc
    have h := hJ () (.inl hr2)
    simp only [Raft.led, if_pos hr2] at h
    repeat (first | refine St.imp ?_ | (refine st_seq ?_; intro K hK) | refine st_t ?_ | refine st_f ?_ | refine st_miss ?_)
    (first | refine a_val ?_ v_field | refine a_val ?_ v_fieldE | refine a_val ?_ v_field0)
    (first | refine a_val ?_ v_load | refine a_val ?_ v_loadA)
    refine a_val ?_ v_assign
    repeat (first | refine St.imp ?_ | (refine st_seq ?_; intro K hK) | refine st_t ?_ | refine st_f ?_ | refine st_miss ?_)
    exact a_weak h
  · have hr2 : ¬ R.role = 2 := by simpa using hc
    repeat (first | refine St.imp ?_ | (refine st_seq ?_; intro K hK) | refine st_t ?_ | refine st_f ?_ | refine st_miss ?_)
    (first | refine a_val ?_ v_field | refine a_val ?_ v_fieldE | refine a_val ?_ v_field0)
    (first | refine a_val ?_ v_load | refine a_val ?_ v_loadA)
    (first | refine a_val ?_ v_len | refine a_val ?_ v_lenS)
    refine a_val ?_ v_gtr
    repeat (first | refine St.imp ?_ | (refine st_seq ?_; intro K hK) | refine st_t ?_ | refine st_f ?_ | refine st_miss ?_)
    refine a_cond (fun hc => ?_) (fun hc => ?_)
    · repeat (first | refine St.imp ?_ | (refine st_seq ?_; intro K hK) | refine st_t ?_ | refine st_f ?_ | refine st_miss ?_)
      refine a_val ?_ v_assign
      repeat (first | refine St.imp ?_ | (refine st_seq ?_; intro K hK) | refine st_t ?_ | refine st_f ?_ | refine st_miss ?_)
      first | refine a_ret Try.results29 ?_ | refine a_end Try.results29 ?_
      have : ¬ R.reads.l.length = 0 := by simp at hc; omega
      simp [leadsB, hr2, this]
    have hr3 : R.reads.l.length = 0 := by simp at hc; simp [hc]
    have h := hJ () (.inr hr3)
    simp only [Raft.led, if_neg hr2] at h
    repeat (first | refine St.imp ?_ | (refine st_seq ?_; intro K hK) | refine st_t ?_ | refine st_f ?_ | refine st_miss ?_)
    exact a_weak h
  rintro _ hrr
  have hrb : (decide (R.role = 2) || decide (R.reads.l.length = 0)) = true := by simpa using hrr
  repeat (first | refine St.imp ?_ | (refine st_seq ?_; intro K hK) | refine st_t ?_ | refine st_f ?_ | refine st_miss ?_)
  repeat (first | refine St.imp ?_ | (refine st_seq ?_; intro K hK) | refine st_t ?_ | refine st_f ?_ | refine st_miss ?_)
  (first | refine a_val ?_ v_field | refine a_val ?_ v_fieldE | refine a_val ?_ v_field0)
  (first | refine a_val ?_ v_load | refine a_val ?_ v_loadA)
  (first | refine a_val ?_ v_len | refine a_val ?_ v_lenS)
  refine a_val ?_ v_move
  repeat (first | refine St.imp ?_ | (refine st_seq ?_; intro K hK) | refine st_t ?_ | refine st_f ?_ | refine st_miss ?_)
  refine a_for R.reads.l.length (fun j _ => [(18, .slice R.reads.a R.reads.l.length R.reads.c), (19, .int .i64 R.reads.l.length), (20, .int .i64 j), (3, .int .i64 R.p.led), (1, .pointer (some ⟨b1, 0, none⟩))]) (fun _ _ => [.blk b1 R.enc 32]) (fun j _ => (R.reads.l.take j.toNat).all (fun x => readB R.p x.p) = true) () (by simp) ?_
  intro j _ h0 h1 hr KL hKL
  repeat (first | refine St.imp ?_ | (refine st_seq ?_; intro K hK) | refine st_t ?_ | refine st_f ?_ | refine st_miss ?_)
  refine a_val ?_ v_lss
  repeat (first | refine St.imp ?_ | (refine st_seq ?_; intro K hK) | refine st_t ?_ | refine st_f ?_ | refine st_miss ?_)
  refine a_cond (fun hc => ?_) (fun hc => ?_)
  · have hlt : j < R.reads.l.length := by simpa using hc
    obtain ⟨x, hx⟩ := get_some (l := R.reads.l) h0 hlt
    have hac := hR.reads.acks x (List.mem_of_getElem? hx)
    have hno : ∀ (h : readB R.p x.p = false), leadsB R.p = false := fun h => by
      have h2 : (R.reads.l.map ReadQ.p).all (readB R.p) = false := by rw [List.all_map]; exact all_no hx h
      simp only [leadsB, h2, Bool.false_and, Bool.and_false]
    repeat (first | refine St.imp ?_ | (refine st_seq ?_; intro K hK) | refine st_t ?_ | refine st_f ?_ | refine st_miss ?_)
    repeat (first | refine St.imp ?_ | (refine st_seq ?_; intro K hK) | refine st_t ?_ | refine st_f ?_ | refine st_miss ?_)
    (first | refine a_val ?_ v_index | refine a_val ?_ v_indexB)
    (first | refine a_val ?_ v_load | refine a_val ?_ v_loadA | refine a_val ?_ (v_loadE hx) | refine a_val ?_ (v_loadE0 hx) | refine a_val ?_ (v_loadEA hx) | refine a_val ?_ (v_loadEA0 hx))
    (refine a_eff ?_ e_alloc; rintro _ _ ⟨bz, rfl, rfl⟩)
    (first | (refine a_effn ?_ e_store; rintro _ _ rfl) | (refine a_effn ?_ e_storeW; rintro _ _ rfl) | (refine a_effn ?_ e_storeA; rintro _ _ rfl) | (refine a_effn ?_ (e_storeE hx); rintro _ _ rfl) | (refine a_effn ?_ (e_storeE0 hx); rintro _ _ rfl))
    repeat (first | refine St.imp ?_ | (refine st_seq ?_; intro K hK) | refine st_t ?_ | refine st_f ?_ | refine st_miss ?_)
    (first | refine a_val ?_ v_field | refine a_val ?_ v_fieldE | refine a_val ?_ v_field0)
    (first | refine a_val ?_ v_load | refine a_val ?_ v_loadA | refine a_val ?_ (v_loadE hx) | refine a_val ?_ (v_loadE0 hx) | refine a_val ?_ (v_loadEA hx) | refine a_val ?_ (v_loadEA0 hx))
    refine a_val ?_ v_lss
    refine a_val ?_ v_move
    refine a_case (fun hg4 => ?_) (fun hg4 => ?_)
    · repeat (first | refine a_skip ?_ | refine a_skipn ?_ | refine a_val ?_ v_pickt | refine a_val ?_ v_pickf | refine a_val ?_ v_move | refine a_val ?_ v_assign | refine St.imp ?_ | refine st_t ?_ | refine st_f ?_ | refine st_miss ?_ | (refine st_seq ?_; intro K hK))
      try simp only [Bool.not_eq_true', Bool.not_eq_false', decide_eq_true_eq, decide_eq_false_iff_not, ne_eq, Decidable.not_not] at hg4
      first | refine a_ret Try.results29 ?_ | refine a_end Try.results29 ?_
      rw [hno (by simp [readB, *]; try omega)]
    (first | refine a_val ?_ v_field | refine a_val ?_ v_fieldE | refine a_val ?_ v_field0 | refine a_skip ?_)
    (first | refine a_val ?_ v_load | refine a_val ?_ v_loadA | refine a_val ?_ (v_loadE hx) | refine a_val ?_ (v_loadE0 hx) | refine a_val ?_ (v_loadEA hx) | refine a_val ?_ (v_loadEA0 hx) | refine a_skip ?_)
    (first | refine a_val ?_ v_gtr | refine a_skip ?_)
    (first | refine a_val ?_ v_pickt | refine a_val ?_ v_pickf)
    refine a_val ?_ v_move
    refine a_case (fun hg9 => ?_) (fun hg9 => ?_)
    · repeat (first | refine a_skip ?_ | refine a_skipn ?_ | refine a_val ?_ v_pickt | refine a_val ?_ v_pickf | refine a_val ?_ v_move | refine a_val ?_ v_assign | refine St.imp ?_ | refine st_t ?_ | refine st_f ?_ | refine st_miss ?_ | (refine st_seq ?_; intro K hK))
      try simp only [Bool.not_eq_true', Bool.not_eq_false', decide_eq_true_eq, decide_eq_false_iff_not, ne_eq, Decidable.not_not] at hg4 hg9
      first | refine a_ret Try.results29 ?_ | refine a_end Try.results29 ?_
      rw [hno (by simp [readB, *]; try omega)]
    (first | refine a_val ?_ v_field | refine a_val ?_ v_fieldE | refine a_val ?_ v_field0 | refine a_skip ?_)
    (first | refine a_val ?_ v_load | refine a_val ?_ v_loadA | refine a_val ?_ (v_loadE hx) | refine a_val ?_ (v_loadE0 hx) | refine a_val ?_ (v_loadEA hx) | refine a_val ?_ (v_loadEA0 hx) | refine a_skip ?_)
    (first | refine a_val ?_ v_lss | refine a_skip ?_)
    (first | refine a_val ?_ v_pickt | refine a_val ?_ v_pickf)
    refine a_val ?_ v_move
    refine a_case (fun hg14 => ?_) (fun hg14 => ?_)
    · repeat (first | refine a_skip ?_ | refine a_skipn ?_ | refine a_val ?_ v_pickt | refine a_val ?_ v_pickf | refine a_val ?_ v_move | refine a_val ?_ v_assign | refine St.imp ?_ | refine st_t ?_ | refine st_f ?_ | refine st_miss ?_ | (refine st_seq ?_; intro K hK))
      try simp only [Bool.not_eq_true', Bool.not_eq_false', decide_eq_true_eq, decide_eq_false_iff_not, ne_eq, Decidable.not_not] at hg4 hg9 hg14
      first | refine a_ret Try.results29 ?_ | refine a_end Try.results29 ?_
      rw [hno (by simp [readB, *]; try omega)]
    (first | refine a_val ?_ v_field | refine a_val ?_ v_fieldE | refine a_val ?_ v_field0 | refine a_skip ?_)
    (first | refine a_val ?_ v_load | refine a_val ?_ v_loadA | refine a_val ?_ (v_loadE hx) | refine a_val ?_ (v_loadE0 hx) | refine a_val ?_ (v_loadEA hx) | refine a_val ?_ (v_loadEA0 hx) | refine a_skip ?_)
    (first | refine a_val ?_ v_field | refine a_val ?_ v_fieldE | refine a_val ?_ v_field0 | refine a_skip ?_)
    (first | refine a_val ?_ v_load | refine a_val ?_ v_loadA | refine a_val ?_ (v_loadE hx) | refine a_val ?_ (v_loadE0 hx) | refine a_val ?_ (v_loadEA hx) | refine a_val ?_ (v_loadEA0 hx) | refine a_skip ?_)
    (first | refine a_val ?_ v_gtr | refine a_skip ?_)
    (first | refine a_val ?_ v_pickt | refine a_val ?_ v_pickf)
    refine a_val ?_ v_move
    refine a_case (fun hg21 => ?_) (fun hg21 => ?_)
    · repeat (first | refine a_skip ?_ | refine a_skipn ?_ | refine a_val ?_ v_pickt | refine a_val ?_ v_pickf | refine a_val ?_ v_move | refine a_val ?_ v_assign | refine St.imp ?_ | refine st_t ?_ | refine st_f ?_ | refine st_miss ?_ | (refine st_seq ?_; intro K hK))
      try simp only [Bool.not_eq_true', Bool.not_eq_false', decide_eq_true_eq, decide_eq_false_iff_not, ne_eq, Decidable.not_not] at hg4 hg9 hg14 hg21
      first | refine a_ret Try.results29 ?_ | refine a_end Try.results29 ?_
      rw [hno (by simp [readB, *]; try omega)]
    (first | refine a_val ?_ v_field | refine a_val ?_ v_fieldE | refine a_val ?_ v_field0 | refine a_skip ?_)
    (first | refine a_val ?_ v_load | refine a_val ?_ v_loadA | refine a_val ?_ (v_loadE hx) | refine a_val ?_ (v_loadE0 hx) | refine a_val ?_ (v_loadEA hx) | refine a_val ?_ (v_loadEA0 hx) | refine a_skip ?_)
    (first | refine a_val ?_ v_lss | refine a_skip ?_)
    (first | refine a_val ?_ v_pickt | refine a_val ?_ v_pickf)
    refine a_val ?_ v_move
    refine a_case (fun hg26 => ?_) (fun hg26 => ?_)
    · repeat (first | refine a_skip ?_ | refine a_skipn ?_ | refine a_val ?_ v_pickt | refine a_val ?_ v_pickf | refine a_val ?_ v_move | refine a_val ?_ v_assign | refine St.imp ?_ | refine st_t ?_ | refine st_f ?_ | refine st_miss ?_ | (refine st_seq ?_; intro K hK))
      try simp only [Bool.not_eq_true', Bool.not_eq_false', decide_eq_true_eq, decide_eq_false_iff_not, ne_eq, Decidable.not_not] at hg4 hg9 hg14 hg21 hg26
      first | refine a_ret Try.results29 ?_ | refine a_end Try.results29 ?_
      rw [hno (by simp [readB, *]; try omega)]
    (first | refine a_val ?_ v_field | refine a_val ?_ v_fieldE | refine a_val ?_ v_field0 | refine a_skip ?_)
    (first | refine a_val ?_ v_load | refine a_val ?_ v_loadA | refine a_val ?_ (v_loadE hx) | refine a_val ?_ (v_loadE0 hx) | refine a_val ?_ (v_loadEA hx) | refine a_val ?_ (v_loadEA0 hx) | refine a_skip ?_)
    (first | refine a_val ?_ v_field | refine a_val ?_ v_fieldE | refine a_val ?_ v_field0 | refine a_skip ?_)
    (first | refine a_val ?_ v_load | refine a_val ?_ v_loadA | refine a_val ?_ (v_loadE hx) | refine a_val ?_ (v_loadE0 hx) | refine a_val ?_ (v_loadEA hx) | refine a_val ?_ (v_loadEA0 hx) | refine a_skip ?_)
    (first | refine a_val ?_ v_gtr | refine a_skip ?_)
    (first | refine a_val ?_ v_pickt | refine a_val ?_ v_pickf)
    refine a_val ?_ v_move
    try simp only [Bool.not_eq_true', Bool.not_eq_false', decide_eq_true_eq, decide_eq_false_iff_not, ne_eq, Decidable.not_not] at hg4 hg9 hg14 hg21 hg26
    refine a_case (fun hg33 => ?_) (fun hg33 => ?_)
    · repeat (first | refine a_skip ?_ | refine a_skipn ?_ | refine a_val ?_ v_pickt | refine a_val ?_ v_pickf | refine a_val ?_ v_move | refine a_val ?_ v_assign | refine St.imp ?_ | refine st_t ?_ | refine st_f ?_ | refine st_miss ?_ | (refine st_seq ?_; intro K hK))
      try simp only [Bool.not_eq_true', Bool.not_eq_false', decide_eq_true_eq, decide_eq_false_iff_not, ne_eq, Decidable.not_not] at hg33
      first | refine a_ret Try.results29 ?_ | refine a_end Try.results29 ?_
      rw [hno (by simp [readB, *]; try omega)]
    try simp only [Bool.not_eq_true', Bool.not_eq_false', decide_eq_true_eq, decide_eq_false_iff_not, ne_eq, Decidable.not_not] at hg33
    (first | refine a_val ?_ v_field | refine a_val ?_ v_fieldE | refine a_val ?_ v_field0 | refine a_skip ?_)
    (first | refine a_val ?_ v_load | refine a_val ?_ v_loadA | refine a_val ?_ (v_loadE hx) | refine a_val ?_ (v_loadE0 hx) | refine a_val ?_ (v_loadEA hx) | refine a_val ?_ (v_loadEA0 hx) | refine a_skip ?_)
    (first | refine a_val ?_ v_field | refine a_val ?_ v_fieldE | refine a_val ?_ v_field0 | refine a_skip ?_)
    (first | refine a_val ?_ v_load | refine a_val ?_ v_loadA | refine a_val ?_ (v_loadE hx) | refine a_val ?_ (v_loadE0 hx) | refine a_val ?_ (v_loadEA hx) | refine a_val ?_ (v_loadEA0 hx) | refine a_skip ?_)
    (first | (refine a_eff ?_ (e_callP rfl rfl fun w hw => rising_m _ _ _ _ w); rintro _ _ ⟨rfl, rfl⟩) | refine a_skip ?_)
    (first | refine a_val ?_ v_not | refine a_skip ?_)
    (first | refine a_val ?_ v_pickt | refine a_val ?_ v_pickf)
    repeat (first | refine St.imp ?_ | (refine st_seq ?_; intro K hK) | refine st_t ?_ | refine st_f ?_ | refine st_miss ?_)
    refine a_cond (fun hc => ?_) (fun hc => ?_)
    · repeat (first | refine St.imp ?_ | (refine st_seq ?_; intro K hK) | refine st_t ?_ | refine st_f ?_ | refine st_miss ?_)
      refine a_val ?_ v_assign
      repeat (first | refine St.imp ?_ | (refine st_seq ?_; intro K hK) | refine st_t ?_ | refine st_f ?_ | refine st_miss ?_)
      first | refine a_ret Try.results29 ?_ | refine a_end Try.results29 ?_
      simp at hc
      rw [hno (by simp [readB, *])]
    repeat (first | refine St.imp ?_ | (refine st_seq ?_; intro K hK) | refine st_t ?_ | refine st_f ?_ | refine st_miss ?_)
    (first | refine a_val ?_ v_add | refine a_val ?_ v_cat)
    refine a_val ?_ v_move
    repeat (first | refine St.imp ?_ | (refine st_seq ?_; intro K hK) | refine st_t ?_ | refine st_f ?_ | refine st_miss ?_)
    simp at hc
    exact a_weak (hKL () (by omega) (by rw [all_step h0 hx, hr]; simp [readB, *]; try omega))
  have hall : (R.reads.l.map ReadQ.p).all (readB R.p) = true := by
    rw [List.all_map]
    exact all_end hr (by simpa using hc)
  have hL : leadsB R.p = (decide ((R.reads.l.length : Int) ≤ 32) && (withinB R.p.led 1 (R.log.p.endI + 1) R.next.l && (withinB R.p.led 0 R.log.p.endI R.mtch.l && withinB R.p.led 0 R.snap.size R.sent.l))) := by
    simp only [leadsB, hall, hrb, Bool.true_and, List.length_map]
  repeat (first | refine St.imp ?_ | (refine st_seq ?_; intro K hK) | refine st_t ?_ | refine st_f ?_ | refine st_miss ?_)
  repeat (first | refine St.imp ?_ | (refine st_seq ?_; intro K hK) | refine st_t ?_ | refine st_f ?_ | refine st_miss ?_)
  (first | refine a_val ?_ v_field | refine a_val ?_ v_fieldE | refine a_val ?_ v_field0)
  refine a_val ?_ (v_loadA (vs := R.log.enc))
  (refine a_eff ?_ (e_callP rfl rfl fun w hw => end_m R.log w); rintro _ _ ⟨rfl, rfl⟩)
  refine a_val ?_ v_move
  refine a_val ?_ v_extract
  refine a_val ?_ v_extract
  refine a_val ?_ v_assign
  refine a_val ?_ v_assign
  repeat (first | refine St.imp ?_ | (refine st_seq ?_; intro K hK) | refine st_t ?_ | refine st_f ?_ | refine st_miss ?_)
  (first | refine a_val ?_ v_field | refine a_val ?_ v_fieldE | refine a_val ?_ v_field0)
  (first | refine a_val ?_ v_load | refine a_val ?_ v_loadA | refine a_val ?_ (v_loadE hx) | refine a_val ?_ (v_loadE0 hx) | refine a_val ?_ (v_loadEA hx) | refine a_val ?_ (v_loadEA0 hx))
  (first | refine a_val ?_ v_len | refine a_val ?_ v_lenS)
  refine a_val ?_ v_leq
  refine a_val ?_ v_move
  refine a_case (fun hg5 => ?_) (fun hg5 => ?_)
  rotate_left
  · repeat (first | refine a_skip ?_ | refine a_skipn ?_ | refine a_val ?_ v_pickt | refine a_val ?_ v_pickf | refine a_val ?_ v_move | refine a_val ?_ v_assign | refine St.imp ?_ | refine st_t ?_ | refine st_f ?_ | refine st_miss ?_ | (refine st_seq ?_; intro K hK))
    try simp only [Bool.not_eq_true', Bool.not_eq_false', decide_eq_true_eq, decide_eq_false_iff_not, ne_eq, Decidable.not_not] at hg5
    first | refine a_ret Try.results29 ?_ | refine a_end Try.results29 ?_
    rw [hL]
    clear hend hbb
    simp [*]
  (first | refine a_val ?_ v_move | refine a_skip ?_)
  (first | refine a_val ?_ v_move | refine a_skip ?_)
  (first | refine a_val ?_ v_add | refine a_val ?_ v_cat | refine a_skip ?_)
  (first | refine a_val ?_ v_field | refine a_val ?_ v_fieldE | refine a_val ?_ v_field0 | refine a_skip ?_)
  (first | refine a_val ?_ v_load | refine a_val ?_ v_loadA | refine a_val ?_ (v_loadE hx) | refine a_val ?_ (v_loadE0 hx) | refine a_val ?_ (v_loadEA hx) | refine a_val ?_ (v_loadEA0 hx) | refine a_skip ?_)
  (first | (refine a_eff ?_ (e_callP rfl rfl fun w hw => within_m _ _ _ _ _ _ w); rintro _ _ ⟨rfl, rfl⟩) | refine a_skip ?_)
  (first | refine a_val ?_ v_pickt | refine a_val ?_ v_pickf)
  refine a_val ?_ v_move
  refine a_case (fun hg13 => ?_) (fun hg13 => ?_)
  rotate_left
  · repeat (first | refine a_skip ?_ | refine a_skipn ?_ | refine a_val ?_ v_pickt | refine a_val ?_ v_pickf | refine a_val ?_ v_move | refine a_val ?_ v_assign | refine St.imp ?_ | refine st_t ?_ | refine st_f ?_ | refine st_miss ?_ | (refine st_seq ?_; intro K hK))
    try simp only [Bool.not_eq_true', Bool.not_eq_false', decide_eq_true_eq, decide_eq_false_iff_not, ne_eq, Decidable.not_not] at hg5 hg13
    first | refine a_ret Try.results29 ?_ | refine a_end Try.results29 ?_
    rw [hL]
    clear hend hbb
    simp [*]
  (first | refine a_val ?_ v_move | refine a_skip ?_)
  (first | refine a_val ?_ v_move | refine a_skip ?_)
  (first | refine a_val ?_ v_field | refine a_val ?_ v_fieldE | refine a_val ?_ v_field0 | refine a_skip ?_)
  (first | refine a_val ?_ v_load | refine a_val ?_ v_loadA | refine a_val ?_ (v_loadE hx) | refine a_val ?_ (v_loadE0 hx) | refine a_val ?_ (v_loadEA hx) | refine a_val ?_ (v_loadEA0 hx) | refine a_skip ?_)
  (first | (refine a_eff ?_ (e_callP rfl rfl fun w hw => within_m _ _ _ _ _ _ w); rintro _ _ ⟨rfl, rfl⟩) | refine a_skip ?_)
  (first | refine a_val ?_ v_pickt | refine a_val ?_ v_pickf)
  refine a_val ?_ v_move
  refine a_case (fun hg20 => ?_) (fun hg20 => ?_)
  rotate_left
  · repeat (first | refine a_skip ?_ | refine a_skipn ?_ | refine a_val ?_ v_pickt | refine a_val ?_ v_pickf | refine a_val ?_ v_move | refine a_val ?_ v_assign | refine St.imp ?_ | refine st_t ?_ | refine st_f ?_ | refine st_miss ?_ | (refine st_seq ?_; intro K hK))
    try simp only [Bool.not_eq_true', Bool.not_eq_false', decide_eq_true_eq, decide_eq_false_iff_not, ne_eq, Decidable.not_not] at hg5 hg13 hg20
    first | refine a_ret Try.results29 ?_ | refine a_end Try.results29 ?_
    rw [hL]
    clear hend hbb
    simp [*]
  (first | refine a_val ?_ v_move | refine a_skip ?_)
  (first | refine a_val ?_ v_field | refine a_val ?_ v_fieldE | refine a_val ?_ v_field0 | refine a_skip ?_)
  (first | refine a_val ?_ v_load | refine a_val ?_ v_loadA | refine a_val ?_ (v_loadE hx) | refine a_val ?_ (v_loadE0 hx) | refine a_val ?_ (v_loadEA hx) | refine a_val ?_ (v_loadEA0 hx) | refine a_skip ?_)
  (first | refine a_val ?_ v_len | refine a_val ?_ v_lenS | refine a_skip ?_)
  (first | refine a_val ?_ v_field | refine a_val ?_ v_fieldE | refine a_val ?_ v_field0 | refine a_skip ?_)
  (first | refine a_val ?_ v_load | refine a_val ?_ v_loadA | refine a_val ?_ (v_loadE hx) | refine a_val ?_ (v_loadE0 hx) | refine a_val ?_ (v_loadEA hx) | refine a_val ?_ (v_loadEA0 hx) | refine a_skip ?_)
  (first | (refine a_eff ?_ (e_callP rfl rfl fun w hw => within_m _ _ _ _ _ _ w); rintro _ _ ⟨rfl, rfl⟩) | refine a_skip ?_)
  (first | refine a_val ?_ v_pickt | refine a_val ?_ v_pickf)
  refine a_val ?_ v_assign
  repeat (first | refine St.imp ?_ | (refine st_seq ?_; intro K hK) | refine st_t ?_ | refine st_f ?_ | refine st_miss ?_)
  first | refine a_ret Try.results29 ?_ | refine a_end Try.results29 ?_
  try simp only [Bool.not_eq_true', Bool.not_eq_false', decide_eq_true_eq, decide_eq_false_iff_not, ne_eq, Decidable.not_not] at hg5 hg13 hg20
  rw [hL]
  clear hend hbb
  simp [*]
theorem may_m (R : RaftQ) (w : World) [hR : RaftAt w (fpAll []) R] (hsz : R.snap.size ≤ 140737488355328 ∧ R.part.size ≤ 140737488355328) : Meets Try.prog 19 [.agg R.enc.toArray] w (fpAll []) (fun v _ => v = .bool (mayB R.p)) := by
  refine enter tysOK Try.func19 rfl Try.ntmps19 rfl (HeapOK.start w) ?_
  repeat (first | refine St.imp ?_ | (refine st_seq ?_; intro K hK) | refine st_t ?_ | refine st_f ?_ | refine st_miss ?_)
  (refine a_eff ?_ e_box; rintro _ _ ⟨bz, rfl, rfl⟩)
  refine a_val ?_ v_assign
  repeat (first | refine St.imp ?_ | (refine st_seq ?_; intro K hK) | refine st_t ?_ | refine st_f ?_ | refine st_miss ?_)
  rename Nat => b1
  repeat (first | refine St.imp ?_ | (refine st_seq ?_; intro K hK) | refine st_t ?_ | refine st_f ?_ | refine st_miss ?_)
  (first | refine a_val ?_ v_field | refine a_val ?_ v_fieldE | refine a_val ?_ v_field0)
  refine a_val ?_ (v_loadA (vs := R.log.enc))
  (refine a_eff ?_ (e_callP rfl rfl fun w hw => end_m R.log w); rintro _ _ ⟨rfl, rfl⟩)
  refine a_val ?_ v_move
  refine a_val ?_ v_extract
  refine a_val ?_ v_extract
  refine a_val ?_ v_assign
  refine a_val ?_ v_assign
  repeat (first | refine St.imp ?_ | (refine st_seq ?_; intro K hK) | refine st_t ?_ | refine st_f ?_ | refine st_miss ?_)
  (first | refine a_val ?_ v_field | refine a_val ?_ v_fieldE | refine a_val ?_ v_field0)
  (first | refine a_val ?_ v_load | refine a_val ?_ v_loadA)
  refine a_val ?_ v_lss
  refine a_val ?_ v_move
  refine a_case (fun hg4 => ?_) (fun hg4 => ?_)
  · repeat (first | refine a_skip ?_ | refine a_skipn ?_ | refine a_val ?_ v_pickt | refine a_val ?_ v_pickf | refine a_val ?_ v_move | refine a_val ?_ v_assign | refine St.imp ?_ | refine st_t ?_ | refine st_f ?_ | refine st_miss ?_ | (refine st_seq ?_; intro K hK))
    try simp only [Bool.not_eq_true', Bool.not_eq_false', decide_eq_true_eq, decide_eq_false_iff_not, ne_eq, Decidable.not_not] at hg4
    first | refine a_ret Try.results19 ?_ | refine a_end Try.results19 ?_
    simp [mayB, headB, *]
    try omega
  (first | refine a_val ?_ v_field | refine a_val ?_ v_fieldE | refine a_val ?_ v_field0 | refine a_skip ?_)
  (first | refine a_val ?_ v_load | refine a_val ?_ v_loadA | refine a_skip ?_)
  (first | refine a_val ?_ v_gtr | refine a_skip ?_)
  (first | refine a_val ?_ v_pickt | refine a_val ?_ v_pickf)
  refine a_val ?_ v_move
  refine a_case (fun hg9 => ?_) (fun hg9 => ?_)
  · repeat (first | refine a_skip ?_ | refine a_skipn ?_ | refine a_val ?_ v_pickt | refine a_val ?_ v_pickf | refine a_val ?_ v_move | refine a_val ?_ v_assign | refine St.imp ?_ | refine st_t ?_ | refine st_f ?_ | refine st_miss ?_ | (refine st_seq ?_; intro K hK))
    try simp only [Bool.not_eq_true', Bool.not_eq_false', decide_eq_true_eq, decide_eq_false_iff_not, ne_eq, Decidable.not_not] at hg4 hg9
    first | refine a_ret Try.results19 ?_ | refine a_end Try.results19 ?_
    simp [mayB, headB, *]
    try omega
  (first | refine a_val ?_ v_field | refine a_val ?_ v_fieldE | refine a_val ?_ v_field0 | refine a_skip ?_)
  (first | refine a_val ?_ v_load | refine a_val ?_ v_loadA | refine a_skip ?_)
  (first | refine a_val ?_ v_lss | refine a_skip ?_)
  (first | refine a_val ?_ v_pickt | refine a_val ?_ v_pickf)
  refine a_val ?_ v_move
  refine a_case (fun hg14 => ?_) (fun hg14 => ?_)
  · repeat (first | refine a_skip ?_ | refine a_skipn ?_ | refine a_val ?_ v_pickt | refine a_val ?_ v_pickf | refine a_val ?_ v_move | refine a_val ?_ v_assign | refine St.imp ?_ | refine st_t ?_ | refine st_f ?_ | refine st_miss ?_ | (refine st_seq ?_; intro K hK))
    try simp only [Bool.not_eq_true', Bool.not_eq_false', decide_eq_true_eq, decide_eq_false_iff_not, ne_eq, Decidable.not_not] at hg4 hg9 hg14
    first | refine a_ret Try.results19 ?_ | refine a_end Try.results19 ?_
    simp [mayB, headB, *]
    try omega
  (first | refine a_val ?_ v_field | refine a_val ?_ v_fieldE | refine a_val ?_ v_field0 | refine a_skip ?_)
  (first | refine a_val ?_ v_load | refine a_val ?_ v_loadA | refine a_skip ?_)
  (first | refine a_val ?_ v_field | refine a_val ?_ v_fieldE | refine a_val ?_ v_field0 | refine a_skip ?_)
  (first | refine a_val ?_ v_load | refine a_val ?_ v_loadA | refine a_skip ?_)
  (first | refine a_val ?_ v_gtr | refine a_skip ?_)
  (first | refine a_val ?_ v_pickt | refine a_val ?_ v_pickf)
  refine a_val ?_ v_move
  refine a_case (fun hg21 => ?_) (fun hg21 => ?_)
  · repeat (first | refine a_skip ?_ | refine a_skipn ?_ | refine a_val ?_ v_pickt | refine a_val ?_ v_pickf | refine a_val ?_ v_move | refine a_val ?_ v_assign | refine St.imp ?_ | refine st_t ?_ | refine st_f ?_ | refine st_miss ?_ | (refine st_seq ?_; intro K hK))
    try simp only [Bool.not_eq_true', Bool.not_eq_false', decide_eq_true_eq, decide_eq_false_iff_not, ne_eq, Decidable.not_not] at hg4 hg9 hg14 hg21
    first | refine a_ret Try.results19 ?_ | refine a_end Try.results19 ?_
    simp [mayB, headB, *]
    try omega
  (first | refine a_val ?_ v_field | refine a_val ?_ v_fieldE | refine a_val ?_ v_field0 | refine a_skip ?_)
  (first | refine a_val ?_ v_load | refine a_val ?_ v_loadA | refine a_skip ?_)
  (first | refine a_val ?_ v_lss | refine a_skip ?_)
  (first | refine a_val ?_ v_pickt | refine a_val ?_ v_pickf)
  refine a_val ?_ v_move
  try simp only [Bool.not_eq_true', Bool.not_eq_false', decide_eq_true_eq, decide_eq_false_iff_not, ne_eq, Decidable.not_not] at hg4 hg9 hg14 hg21
  refine a_case (fun hg26 => ?_) (fun hg26 => ?_)
  · repeat (first | refine a_skip ?_ | refine a_skipn ?_ | refine a_val ?_ v_pickt | refine a_val ?_ v_pickf | refine a_val ?_ v_move | refine a_val ?_ v_assign | refine St.imp ?_ | refine st_t ?_ | refine st_f ?_ | refine st_miss ?_ | (refine st_seq ?_; intro K hK))
    try simp only [Bool.not_eq_true', Bool.not_eq_false', decide_eq_true_eq, decide_eq_false_iff_not, ne_eq, Decidable.not_not] at hg26
    first | refine a_ret Try.results19 ?_ | refine a_end Try.results19 ?_
    simp [mayB, headB, *]
    try omega
  try simp only [Bool.not_eq_true', Bool.not_eq_false', decide_eq_true_eq, decide_eq_false_iff_not, ne_eq, Decidable.not_not] at hg26
  (first | refine a_val ?_ v_field | refine a_val ?_ v_fieldE | refine a_val ?_ v_field0 | refine a_skip ?_)
  (first | refine a_val ?_ v_load | refine a_val ?_ v_loadA | refine a_skip ?_)
  (first | refine a_val ?_ v_gtr | refine a_skip ?_)
  (first | refine a_val ?_ v_pickt | refine a_val ?_ v_pickf)
  refine a_val ?_ v_assign
  repeat (first | refine St.imp ?_ | (refine st_seq ?_; intro K hK) | refine st_t ?_ | refine st_f ?_ | refine st_miss ?_)
  refine a_cond (fun hc => ?_) (fun hc => ?_)
  · repeat (first | refine St.imp ?_ | (refine st_seq ?_; intro K hK) | refine st_t ?_ | refine st_f ?_ | refine st_miss ?_)
    refine a_val ?_ v_assign
    repeat (first | refine St.imp ?_ | (refine st_seq ?_; intro K hK) | refine st_t ?_ | refine st_f ?_ | refine st_miss ?_)
    first | refine a_ret Try.results19 ?_ | refine a_end Try.results19 ?_
    simp at hc
    simp [mayB, headB, *]
    try omega
  simp only [decide_eq_false_iff_not] at hc
  have hhead : headB R.p = true := by simp [headB]; omega
  clear hg4 hg9 hg14 hg21 hg26 hc
  repeat (first | refine St.imp ?_ | (refine st_seq ?_; intro K hK) | refine st_t ?_ | refine st_f ?_ | refine st_miss ?_)
  repeat (first | refine St.imp ?_ | (refine st_seq ?_; intro K hK) | refine st_t ?_ | refine st_f ?_ | refine st_miss ?_)
  (first | refine a_val ?_ v_field | refine a_val ?_ v_fieldE | refine a_val ?_ v_field0)
  (first | refine a_val ?_ v_load | refine a_val ?_ v_loadA)
  (refine a_eff ?_ (e_callP rfl rfl fun w hw => number_m _ w); rintro _ _ ⟨rfl, rfl⟩)
  refine a_val ?_ v_not
  refine a_val ?_ v_move
  refine a_case (fun hg5 => ?_) (fun hg5 => ?_)
  · repeat (first | refine a_skip ?_ | refine a_skipn ?_ | refine a_val ?_ v_pickt | refine a_val ?_ v_pickf | refine a_val ?_ v_move | refine a_val ?_ v_assign | refine St.imp ?_ | refine st_t ?_ | refine st_f ?_ | refine st_miss ?_ | (refine st_seq ?_; intro K hK))
    try simp only [Bool.not_eq_true', Bool.not_eq_false', decide_eq_true_eq, decide_eq_false_iff_not, ne_eq, Decidable.not_not] at hg5
    first | refine a_ret Try.results19 ?_ | refine a_end Try.results19 ?_
    simp [mayB, voteB, *]
    try omega
  (first | refine a_val ?_ v_field | refine a_val ?_ v_fieldE | refine a_val ?_ v_field0 | refine a_skip ?_)
  (first | refine a_val ?_ v_load | refine a_val ?_ v_loadA | refine a_skip ?_)
  (first | refine a_val ?_ v_lss | refine a_skip ?_)
  (first | refine a_val ?_ v_pickt | refine a_val ?_ v_pickf)
  refine a_val ?_ v_move
  refine a_case (fun hg10 => ?_) (fun hg10 => ?_)
  · repeat (first | refine a_skip ?_ | refine a_skipn ?_ | refine a_val ?_ v_pickt | refine a_val ?_ v_pickf | refine a_val ?_ v_move | refine a_val ?_ v_assign | refine St.imp ?_ | refine st_t ?_ | refine st_f ?_ | refine st_miss ?_ | (refine st_seq ?_; intro K hK))
    try simp only [Bool.not_eq_true', Bool.not_eq_false', decide_eq_true_eq, decide_eq_false_iff_not, ne_eq, Decidable.not_not] at hg5 hg10
    first | refine a_ret Try.results19 ?_ | refine a_end Try.results19 ?_
    simp [mayB, voteB, *]
    try omega
  (first | refine a_val ?_ v_field | refine a_val ?_ v_fieldE | refine a_val ?_ v_field0 | refine a_skip ?_)
  (first | refine a_val ?_ v_load | refine a_val ?_ v_loadA | refine a_skip ?_)
  (first | refine a_val ?_ v_field | refine a_val ?_ v_fieldE | refine a_val ?_ v_field0 | refine a_skip ?_)
  (first | refine a_val ?_ v_load | refine a_val ?_ v_loadA | refine a_skip ?_)
  (first | refine a_val ?_ v_gtr | refine a_skip ?_)
  (first | refine a_val ?_ v_pickt | refine a_val ?_ v_pickf)
  refine a_val ?_ v_move
  refine a_case (fun hg17 => ?_) (fun hg17 => ?_)
  · repeat (first | refine a_skip ?_ | refine a_skipn ?_ | refine a_val ?_ v_pickt | refine a_val ?_ v_pickf | refine a_val ?_ v_move | refine a_val ?_ v_assign | refine St.imp ?_ | refine st_t ?_ | refine st_f ?_ | refine st_miss ?_ | (refine st_seq ?_; intro K hK))
    try simp only [Bool.not_eq_true', Bool.not_eq_false', decide_eq_true_eq, decide_eq_false_iff_not, ne_eq, Decidable.not_not] at hg5 hg10 hg17
    first | refine a_ret Try.results19 ?_ | refine a_end Try.results19 ?_
    simp [mayB, voteB, *]
    try omega
  (first | refine a_val ?_ v_field | refine a_val ?_ v_fieldE | refine a_val ?_ v_field0 | refine a_skip ?_)
  (first | refine a_val ?_ v_load | refine a_val ?_ v_loadA | refine a_skip ?_)
  (first | refine a_val ?_ v_lss | refine a_skip ?_)
  (first | refine a_val ?_ v_pickt | refine a_val ?_ v_pickf)
  refine a_val ?_ v_move
  refine a_case (fun hg22 => ?_) (fun hg22 => ?_)
  · repeat (first | refine a_skip ?_ | refine a_skipn ?_ | refine a_val ?_ v_pickt | refine a_val ?_ v_pickf | refine a_val ?_ v_move | refine a_val ?_ v_assign | refine St.imp ?_ | refine st_t ?_ | refine st_f ?_ | refine st_miss ?_ | (refine st_seq ?_; intro K hK))
    try simp only [Bool.not_eq_true', Bool.not_eq_false', decide_eq_true_eq, decide_eq_false_iff_not, ne_eq, Decidable.not_not] at hg5 hg10 hg17 hg22
    first | refine a_ret Try.results19 ?_ | refine a_end Try.results19 ?_
    simp [mayB, voteB, *]
    try omega
  (first | refine a_val ?_ v_field | refine a_val ?_ v_fieldE | refine a_val ?_ v_field0 | refine a_skip ?_)
  (first | refine a_val ?_ v_load | refine a_val ?_ v_loadA | refine a_skip ?_)
  (first | refine a_val ?_ v_field | refine a_val ?_ v_fieldE | refine a_val ?_ v_field0 | refine a_skip ?_)
  (first | refine a_val ?_ v_load | refine a_val ?_ v_loadA | refine a_skip ?_)
  (first | refine a_val ?_ v_gtr | refine a_skip ?_)
  (first | refine a_val ?_ v_pickt | refine a_val ?_ v_pickf)
  refine a_val ?_ v_move
  refine a_case (fun hg29 => ?_) (fun hg29 => ?_)
  · repeat (first | refine a_skip ?_ | refine a_skipn ?_ | refine a_val ?_ v_pickt | refine a_val ?_ v_pickf | refine a_val ?_ v_move | refine a_val ?_ v_assign | refine St.imp ?_ | refine st_t ?_ | refine st_f ?_ | refine st_miss ?_ | (refine st_seq ?_; intro K hK))
    try simp only [Bool.not_eq_true', Bool.not_eq_false', decide_eq_true_eq, decide_eq_false_iff_not, ne_eq, Decidable.not_not] at hg5 hg10 hg17 hg22 hg29
    first | refine a_ret Try.results19 ?_ | refine a_end Try.results19 ?_
    simp [mayB, voteB, *]
    try omega
  (first | refine a_val ?_ v_field | refine a_val ?_ v_fieldE | refine a_val ?_ v_field0 | refine a_skip ?_)
  (first | refine a_val ?_ (v_loadA (vs := R.log.enc)) | refine a_skip ?_)
  (first | (refine a_eff ?_ (e_callP rfl rfl fun w hw => logMay_m R.log w); rintro _ _ ⟨rfl, rfl⟩) | refine a_skip ?_)
  (first | refine a_val ?_ v_not | refine a_skip ?_)
  (first | refine a_val ?_ v_pickt | refine a_val ?_ v_pickf)
  refine a_val ?_ v_move
  try simp only [Bool.not_eq_true', Bool.not_eq_false', decide_eq_true_eq, decide_eq_false_iff_not, ne_eq, Decidable.not_not] at hg5 hg10 hg17 hg22 hg29
  refine a_case (fun hg35 => ?_) (fun hg35 => ?_)
  · repeat (first | refine a_skip ?_ | refine a_skipn ?_ | refine a_val ?_ v_pickt | refine a_val ?_ v_pickf | refine a_val ?_ v_move | refine a_val ?_ v_assign | refine St.imp ?_ | refine st_t ?_ | refine st_f ?_ | refine st_miss ?_ | (refine st_seq ?_; intro K hK))
    try simp only [Bool.not_eq_true', Bool.not_eq_false', decide_eq_true_eq, decide_eq_false_iff_not, ne_eq, Decidable.not_not] at hg35
    first | refine a_ret Try.results19 ?_ | refine a_end Try.results19 ?_
    simp [mayB, voteB, *]
    try omega
  try simp only [Bool.not_eq_true', Bool.not_eq_false', decide_eq_true_eq, decide_eq_false_iff_not, ne_eq, Decidable.not_not] at hg35
  (first | refine a_val ?_ v_move | refine a_skip ?_)
  (first | refine a_val ?_ v_field | refine a_val ?_ v_fieldE | refine a_val ?_ v_field0 | refine a_skip ?_)
  (first | refine a_val ?_ v_load | refine a_val ?_ v_loadA | refine a_skip ?_)
  (first | refine a_val ?_ v_gtr | refine a_skip ?_)
  (first | refine a_val ?_ v_pickt | refine a_val ?_ v_pickf)
  refine a_val ?_ v_assign
  repeat (first | refine St.imp ?_ | (refine st_seq ?_; intro K hK) | refine st_t ?_ | refine st_f ?_ | refine st_miss ?_)
  refine a_cond (fun hc => ?_) (fun hc => ?_)
  · repeat (first | refine St.imp ?_ | (refine st_seq ?_; intro K hK) | refine st_t ?_ | refine st_f ?_ | refine st_miss ?_)
    refine a_val ?_ v_assign
    repeat (first | refine St.imp ?_ | (refine st_seq ?_; intro K hK) | refine st_t ?_ | refine st_f ?_ | refine st_miss ?_)
    first | refine a_ret Try.results19 ?_ | refine a_end Try.results19 ?_
    simp at hc
    simp [mayB, voteB, *]
    try omega
  simp only [decide_eq_false_iff_not] at hc
  have hvote : voteB R.p = true := by simp [voteB, *]; omega
  have hlog : logB R.p.log = true := hg35
  clear hg5 hg10 hg17 hg22 hg29 hg35 hc
  repeat (first | refine St.imp ?_ | (refine st_seq ?_; intro K hK) | refine st_t ?_ | refine st_f ?_ | refine st_miss ?_)
  repeat (first | refine St.imp ?_ | (refine st_seq ?_; intro K hK) | refine st_t ?_ | refine st_f ?_ | refine st_miss ?_)
  (first | refine a_val ?_ v_field | refine a_val ?_ v_fieldE | refine a_val ?_ v_field0)
  (first | refine a_val ?_ v_load | refine a_val ?_ v_loadA)
  (first | refine a_val ?_ v_len | refine a_val ?_ v_lenS)
  refine a_val ?_ v_gtr
  refine a_val ?_ v_move
  refine a_case (fun hg5 => ?_) (fun hg5 => ?_)
  · repeat (first | refine a_skip ?_ | refine a_skipn ?_ | refine a_val ?_ v_pickt | refine a_val ?_ v_pickf | refine a_val ?_ v_move | refine a_val ?_ v_assign | refine St.imp ?_ | refine st_t ?_ | refine st_f ?_ | refine st_miss ?_ | (refine st_seq ?_; intro K hK))
    try simp only [Bool.not_eq_true', Bool.not_eq_false', decide_eq_true_eq, decide_eq_false_iff_not, ne_eq, Decidable.not_not] at hg5
    first | refine a_ret Try.results19 ?_ | refine a_end Try.results19 ?_
    simp [mayB, snapB, *]
    try omega
  try simp only [Bool.not_eq_true', Bool.not_eq_false', decide_eq_true_eq, decide_eq_false_iff_not, ne_eq, Decidable.not_not] at hg5
  (first | refine a_val ?_ v_field | refine a_val ?_ v_fieldE | refine a_val ?_ v_field0 | refine a_skip ?_)
  (first | refine a_val ?_ v_field | refine a_val ?_ v_fieldE | refine a_val ?_ v_field0 | refine a_skip ?_)
  (first | refine a_val ?_ v_load | refine a_val ?_ v_loadA | refine a_skip ?_)
  (first | refine a_val ?_ v_eql | refine a_val ?_ v_seql | refine a_val ?_ v_beql | refine a_val ?_ v_isNil | refine a_skip ?_)
  (first | refine a_val ?_ v_move | refine a_skip ?_)
  refine a_join 5 [(98, .bool (decide (R.log.base = 0) && !emptyB R.snap)), (1, .pointer (some ⟨b1, 0, none⟩)), (3, .int .i64 R.p.log.endI)] [.blk b1 R.enc 32] (fun J => ?_) ?_
  · refine a_case (fun hg10 => ?_) (fun hg10 => ?_)
    · have e1 : (decide (R.log.base = 0) && !emptyB R.snap) = (!(R.snap.toList == noB.toList)) := by simp at hg10; simp [hg10, emptyB]
      rw [e1] at J
      (first | refine a_val ?_ v_field | refine a_val ?_ v_fieldE | refine a_val ?_ v_field0 | refine a_skip ?_)
      (first | refine a_val ?_ v_load | refine a_val ?_ v_loadA | refine a_skip ?_)
      (first | refine a_val ?_ v_neq | refine a_val ?_ v_sneq | refine a_val ?_ v_bneq | refine a_val ?_ v_notNil | refine a_skip ?_)
      (first | refine a_val ?_ v_pickt | refine a_val ?_ v_pickf | refine a_skip ?_)
      (first | refine a_val ?_ v_pickt | refine a_val ?_ v_pickf)
      exact a_weakL J
    · have e1 : (decide (R.log.base = 0) && !emptyB R.snap) = false := by simp at hg10; simp [hg10]
      rw [e1] at J
      (first | refine a_val ?_ v_field | refine a_val ?_ v_fieldE | refine a_val ?_ v_field0 | refine a_skip ?_)
      (first | refine a_val ?_ v_load | refine a_val ?_ v_loadA | refine a_skip ?_)
      (first | refine a_val ?_ v_neq | refine a_val ?_ v_sneq | refine a_val ?_ v_bneq | refine a_val ?_ v_notNil | refine a_skip ?_)
      (first | refine a_val ?_ v_pickt | refine a_val ?_ v_pickf | refine a_skip ?_)
      (first | refine a_val ?_ v_pickt | refine a_val ?_ v_pickf)
      exact a_weakL J
  refine a_val ?_ v_move
  refine a_case (fun hg16 => ?_) (fun hg16 => ?_)
  · repeat (first | refine a_skip ?_ | refine a_skipn ?_ | refine a_val ?_ v_pickt | refine a_val ?_ v_pickf | refine a_val ?_ v_move | refine a_val ?_ v_assign | refine St.imp ?_ | refine st_t ?_ | refine st_f ?_ | refine st_miss ?_ | (refine st_seq ?_; intro K hK))
    try simp only [Bool.not_eq_true', Bool.not_eq_false', decide_eq_true_eq, decide_eq_false_iff_not, ne_eq, Decidable.not_not] at hg16
    first | refine a_ret Try.results19 ?_ | refine a_end Try.results19 ?_
    simp [mayB, snapB, *]
    try omega
  (first | refine a_val ?_ v_field | refine a_val ?_ v_fieldE | refine a_val ?_ v_field0 | refine a_skip ?_)
  (first | refine a_val ?_ v_load | refine a_val ?_ v_loadA | refine a_skip ?_)
  (first | refine a_val ?_ v_field | refine a_val ?_ v_fieldE | refine a_val ?_ v_field0 | refine a_skip ?_)
  (first | refine a_val ?_ v_field | refine a_val ?_ v_fieldE | refine a_val ?_ v_field0 | refine a_skip ?_)
  (first | refine a_val ?_ v_load | refine a_val ?_ v_loadA | refine a_skip ?_)
  (first | refine a_val ?_ v_lss | refine a_skip ?_)
  (first | refine a_val ?_ v_pickt | refine a_val ?_ v_pickf)
  refine a_val ?_ v_move
  try simp only [Bool.not_eq_true', Bool.not_eq_false', decide_eq_true_eq, decide_eq_false_iff_not, ne_eq, Decidable.not_not] at hg16
  refine a_case (fun hg24 => ?_) (fun hg24 => ?_)
  · repeat (first | refine a_skip ?_ | refine a_skipn ?_ | refine a_val ?_ v_pickt | refine a_val ?_ v_pickf | refine a_val ?_ v_move | refine a_val ?_ v_assign | refine St.imp ?_ | refine st_t ?_ | refine st_f ?_ | refine st_miss ?_ | (refine st_seq ?_; intro K hK))
    try simp only [Bool.not_eq_true', Bool.not_eq_false', decide_eq_true_eq, decide_eq_false_iff_not, ne_eq, Decidable.not_not] at hg24
    first | refine a_ret Try.results19 ?_ | refine a_end Try.results19 ?_
    simp [mayB, snapB, *]
    try omega
  try simp only [Bool.not_eq_true', Bool.not_eq_false', decide_eq_true_eq, decide_eq_false_iff_not, ne_eq, Decidable.not_not] at hg24
  (first | refine a_val ?_ v_field | refine a_val ?_ v_fieldE | refine a_val ?_ v_field0 | refine a_skip ?_)
  (first | refine a_val ?_ v_load | refine a_val ?_ v_loadA | refine a_skip ?_)
  (first | refine a_val ?_ v_move | refine a_skip ?_)
  (first | refine a_val ?_ v_gtr | refine a_skip ?_)
  (first | refine a_val ?_ v_pickt | refine a_val ?_ v_pickf)
  refine a_val ?_ v_assign
  repeat (first | refine St.imp ?_ | (refine st_seq ?_; intro K hK) | refine st_t ?_ | refine st_f ?_ | refine st_miss ?_)
  refine a_cond (fun hc => ?_) (fun hc => ?_)
  · repeat (first | refine St.imp ?_ | (refine st_seq ?_; intro K hK) | refine st_t ?_ | refine st_f ?_ | refine st_miss ?_)
    refine a_val ?_ v_assign
    repeat (first | refine St.imp ?_ | (refine st_seq ?_; intro K hK) | refine st_t ?_ | refine st_f ?_ | refine st_miss ?_)
    first | refine a_ret Try.results19 ?_ | refine a_end Try.results19 ?_
    simp at hc
    simp [mayB, snapB, *]
    try omega
  simp only [decide_eq_false_iff_not] at hc
  have hsnap : snapB R.p = true := by
    simp only [snapB, Bool.and_eq_true, decide_eq_true_eq, Bool.not_eq_true']
    exact ⟨by omega, hg16, by omega, by omega⟩
  clear hg5 hg16 hg24 hc
  repeat (first | refine St.imp ?_ | (refine st_seq ?_; intro K hK) | refine st_t ?_ | refine st_f ?_ | refine st_miss ?_)
  (first | refine a_val ?_ v_field | refine a_val ?_ v_fieldE | refine a_val ?_ v_field0)
  (first | refine a_val ?_ v_load | refine a_val ?_ v_loadA)
  (refine a_eff ?_ (e_callP rfl rfl fun w hw => number_m _ w); rintro _ _ ⟨rfl, rfl⟩)
  refine a_val ?_ v_not
  refine a_val ?_ v_move
  refine a_case (fun hg5 => ?_) (fun hg5 => ?_)
  · repeat (first | refine a_skip ?_ | refine a_skipn ?_ | refine a_val ?_ v_pickt | refine a_val ?_ v_pickf | refine a_val ?_ v_move | refine a_val ?_ v_assign | refine St.imp ?_ | refine st_t ?_ | refine st_f ?_ | refine st_miss ?_ | (refine st_seq ?_; intro K hK))
    try simp only [Bool.not_eq_true', Bool.not_eq_false', decide_eq_true_eq, decide_eq_false_iff_not, ne_eq, Decidable.not_not] at hg5
    first | refine a_ret Try.results19 ?_ | refine a_end Try.results19 ?_
    simp [mayB, timeB, *]
    try omega
  (first | refine a_val ?_ v_field | refine a_val ?_ v_fieldE | refine a_val ?_ v_field0 | refine a_skip ?_)
  (first | refine a_val ?_ v_load | refine a_val ?_ v_loadA | refine a_skip ?_)
  (first | (refine a_eff ?_ (e_callP rfl rfl fun w hw => number_m _ w); rintro _ _ ⟨rfl, rfl⟩) | refine a_skip ?_)
  (first | refine a_val ?_ v_not | refine a_skip ?_)
  (first | refine a_val ?_ v_pickt | refine a_val ?_ v_pickf)
  refine a_val ?_ v_move
  refine a_case (fun hg11 => ?_) (fun hg11 => ?_)
  · repeat (first | refine a_skip ?_ | refine a_skipn ?_ | refine a_val ?_ v_pickt | refine a_val ?_ v_pickf | refine a_val ?_ v_move | refine a_val ?_ v_assign | refine St.imp ?_ | refine st_t ?_ | refine st_f ?_ | refine st_miss ?_ | (refine st_seq ?_; intro K hK))
    try simp only [Bool.not_eq_true', Bool.not_eq_false', decide_eq_true_eq, decide_eq_false_iff_not, ne_eq, Decidable.not_not] at hg5 hg11
    first | refine a_ret Try.results19 ?_ | refine a_end Try.results19 ?_
    simp [mayB, timeB, *]
    try omega
  (first | refine a_val ?_ v_field | refine a_val ?_ v_fieldE | refine a_val ?_ v_field0 | refine a_skip ?_)
  (first | refine a_val ?_ v_load | refine a_val ?_ v_loadA | refine a_skip ?_)
  (first | (refine a_eff ?_ (e_callP rfl rfl fun w hw => number_m _ w); rintro _ _ ⟨rfl, rfl⟩) | refine a_skip ?_)
  (first | refine a_val ?_ v_not | refine a_skip ?_)
  (first | refine a_val ?_ v_pickt | refine a_val ?_ v_pickf)
  refine a_val ?_ v_move
  refine a_case (fun hg17 => ?_) (fun hg17 => ?_)
  · repeat (first | refine a_skip ?_ | refine a_skipn ?_ | refine a_val ?_ v_pickt | refine a_val ?_ v_pickf | refine a_val ?_ v_move | refine a_val ?_ v_assign | refine St.imp ?_ | refine st_t ?_ | refine st_f ?_ | refine st_miss ?_ | (refine st_seq ?_; intro K hK))
    try simp only [Bool.not_eq_true', Bool.not_eq_false', decide_eq_true_eq, decide_eq_false_iff_not, ne_eq, Decidable.not_not] at hg5 hg11 hg17
    first | refine a_ret Try.results19 ?_ | refine a_end Try.results19 ?_
    simp [mayB, timeB, *]
    try omega
  (first | refine a_val ?_ v_field | refine a_val ?_ v_fieldE | refine a_val ?_ v_field0 | refine a_skip ?_)
  (first | refine a_val ?_ v_load | refine a_val ?_ v_loadA | refine a_skip ?_)
  (first | refine a_val ?_ v_field | refine a_val ?_ v_fieldE | refine a_val ?_ v_field0 | refine a_skip ?_)
  (first | refine a_val ?_ v_load | refine a_val ?_ v_loadA | refine a_skip ?_)
  (first | (refine a_eff ?_ (e_callP rfl rfl fun w hw => rising_m _ _ _ _ w); rintro _ _ ⟨rfl, rfl⟩) | refine a_skip ?_)
  (first | refine a_val ?_ v_not | refine a_skip ?_)
  (first | refine a_val ?_ v_pickt | refine a_val ?_ v_pickf)
  refine a_val ?_ v_assign
  repeat (first | refine St.imp ?_ | (refine st_seq ?_; intro K hK) | refine st_t ?_ | refine st_f ?_ | refine st_miss ?_)
  try simp only [Bool.not_eq_true', Bool.not_eq_false', decide_eq_true_eq, decide_eq_false_iff_not, ne_eq, Decidable.not_not] at hg5 hg11 hg17
  refine a_cond (fun hc => ?_) (fun hc => ?_)
  · repeat (first | refine St.imp ?_ | (refine st_seq ?_; intro K hK) | refine st_t ?_ | refine st_f ?_ | refine st_miss ?_)
    refine a_val ?_ v_assign
    repeat (first | refine St.imp ?_ | (refine st_seq ?_; intro K hK) | refine st_t ?_ | refine st_f ?_ | refine st_miss ?_)
    first | refine a_ret Try.results19 ?_ | refine a_end Try.results19 ?_
    simp at hc
    simp [mayB, timeB, *]
  have htime : timeB R.p = true := by simp at hc; simp [timeB, *]
  clear hg5 hg11 hg17 hc
  repeat (first | refine St.imp ?_ | (refine st_seq ?_; intro K hK) | refine st_t ?_ | refine st_f ?_ | refine st_miss ?_)
  repeat (first | refine St.imp ?_ | (refine st_seq ?_; intro K hK) | refine st_t ?_ | refine st_f ?_ | refine st_miss ?_)
  refine a_val ?_ (v_loadA (vs := R.enc))
  (refine a_eff ?_ (e_callP rfl rfl fun w hw => leads_m R w hlog); rintro _ _ ⟨rfl, rfl⟩)
  refine a_val ?_ v_move
  refine a_case (fun hg3 => ?_) (fun hg3 => ?_)
  rotate_left
  · repeat (first | refine a_skip ?_ | refine a_skipn ?_ | refine a_val ?_ v_pickt | refine a_val ?_ v_pickf | refine a_val ?_ v_move | refine a_val ?_ v_assign | refine St.imp ?_ | refine st_t ?_ | refine st_f ?_ | refine st_miss ?_ | (refine st_seq ?_; intro K hK))
    try simp only [Bool.not_eq_true', Bool.not_eq_false', decide_eq_true_eq, decide_eq_false_iff_not, ne_eq, Decidable.not_not] at hg3
    first | refine a_ret Try.results19 ?_ | refine a_end Try.results19 ?_
    simp [mayB, partB, *]
    try omega
  (first | refine a_val ?_ v_field | refine a_val ?_ v_fieldE | refine a_val ?_ v_field0 | refine a_skip ?_)
  (first | refine a_val ?_ v_load | refine a_val ?_ v_loadA | refine a_skip ?_)
  (first | refine a_val ?_ v_len | refine a_val ?_ v_lenS | refine a_skip ?_)
  (first | refine a_val ?_ v_leq | refine a_skip ?_)
  (first | refine a_val ?_ v_pickt | refine a_val ?_ v_pickf)
  refine a_val ?_ v_move
  refine a_case (fun hg9 => ?_) (fun hg9 => ?_)
  rotate_left
  · repeat (first | refine a_skip ?_ | refine a_skipn ?_ | refine a_val ?_ v_pickt | refine a_val ?_ v_pickf | refine a_val ?_ v_move | refine a_val ?_ v_assign | refine St.imp ?_ | refine st_t ?_ | refine st_f ?_ | refine st_miss ?_ | (refine st_seq ?_; intro K hK))
    try simp only [Bool.not_eq_true', Bool.not_eq_false', decide_eq_true_eq, decide_eq_false_iff_not, ne_eq, Decidable.not_not] at hg3 hg9
    first | refine a_ret Try.results19 ?_ | refine a_end Try.results19 ?_
    simp [mayB, partB, *]
    try omega
  (first | refine a_val ?_ v_field | refine a_val ?_ v_fieldE | refine a_val ?_ v_field0 | refine a_skip ?_)
  (first | refine a_val ?_ v_load | refine a_val ?_ v_loadA | refine a_skip ?_)
  (first | refine a_val ?_ v_geq | refine a_skip ?_)
  (first | refine a_val ?_ v_pickt | refine a_val ?_ v_pickf)
  refine a_val ?_ v_move
  refine a_case (fun hg14 => ?_) (fun hg14 => ?_)
  rotate_left
  · repeat (first | refine a_skip ?_ | refine a_skipn ?_ | refine a_val ?_ v_pickt | refine a_val ?_ v_pickf | refine a_val ?_ v_move | refine a_val ?_ v_assign | refine St.imp ?_ | refine st_t ?_ | refine st_f ?_ | refine st_miss ?_ | (refine st_seq ?_; intro K hK))
    try simp only [Bool.not_eq_true', Bool.not_eq_false', decide_eq_true_eq, decide_eq_false_iff_not, ne_eq, Decidable.not_not] at hg3 hg9 hg14
    first | refine a_ret Try.results19 ?_ | refine a_end Try.results19 ?_
    simp [mayB, partB, *]
    try omega
  (first | refine a_val ?_ v_field | refine a_val ?_ v_fieldE | refine a_val ?_ v_field0 | refine a_skip ?_)
  (first | refine a_val ?_ v_load | refine a_val ?_ v_loadA | refine a_skip ?_)
  (first | refine a_val ?_ v_leq | refine a_skip ?_)
  (first | refine a_val ?_ v_pickt | refine a_val ?_ v_pickf)
  refine a_val ?_ v_move
  try simp only [Bool.not_eq_true', Bool.not_eq_false', decide_eq_true_eq, decide_eq_false_iff_not, ne_eq, Decidable.not_not] at hg3 hg9 hg14
  refine a_case (fun hg19 => ?_) (fun hg19 => ?_)
  rotate_left
  · repeat (first | refine a_skip ?_ | refine a_skipn ?_ | refine a_val ?_ v_pickt | refine a_val ?_ v_pickf | refine a_val ?_ v_move | refine a_val ?_ v_assign | refine St.imp ?_ | refine st_t ?_ | refine st_f ?_ | refine st_miss ?_ | (refine st_seq ?_; intro K hK))
    try simp only [Bool.not_eq_true', Bool.not_eq_false', decide_eq_true_eq, decide_eq_false_iff_not, ne_eq, Decidable.not_not] at hg19
    first | refine a_ret Try.results19 ?_ | refine a_end Try.results19 ?_
    simp [mayB, partB, *]
    try omega
  try simp only [Bool.not_eq_true', Bool.not_eq_false', decide_eq_true_eq, decide_eq_false_iff_not, ne_eq, Decidable.not_not] at hg19
  (first | refine a_val ?_ v_field | refine a_val ?_ v_fieldE | refine a_val ?_ v_field0 | refine a_skip ?_)
  (first | refine a_val ?_ v_load | refine a_val ?_ v_loadA | refine a_skip ?_)
  (first | refine a_val ?_ v_gtr | refine a_skip ?_)
  (first | refine a_val ?_ v_move | refine a_skip ?_)
  refine a_case (fun hg23 => ?_) (fun hg23 => ?_)
  · repeat (first | refine a_skip ?_ | refine a_skipn ?_ | refine a_val ?_ v_pickt | refine a_val ?_ v_pickf | refine a_val ?_ v_move | refine a_val ?_ v_assign | refine St.imp ?_ | refine st_t ?_ | refine st_f ?_ | refine st_miss ?_ | (refine st_seq ?_; intro K hK))
    first | refine a_ret Try.results19 ?_ | refine a_end Try.results19 ?_
    simp at hg23
    simp [mayB, partB, *]
  (first | refine a_val ?_ v_field | refine a_val ?_ v_fieldE | refine a_val ?_ v_field0 | refine a_skip ?_)
  (first | refine a_val ?_ v_load | refine a_val ?_ v_loadA | refine a_skip ?_)
  (first | refine a_val ?_ v_eql | refine a_val ?_ v_seql | refine a_val ?_ v_beql | refine a_val ?_ v_isNil | refine a_skip ?_)
  (first | refine a_val ?_ v_pickt | refine a_val ?_ v_pickf | refine a_skip ?_)
  (first | refine a_val ?_ v_pickt | refine a_val ?_ v_pickf)
  refine a_val ?_ v_assign
  repeat (first | refine St.imp ?_ | (refine st_seq ?_; intro K hK) | refine st_t ?_ | refine st_f ?_ | refine st_miss ?_)
  first | refine a_ret Try.results19 ?_ | refine a_end Try.results19 ?_
  simp at hg23
  have hg24 : ¬ 0 < R.partOf := by omega
  simp [mayB, partB, emptyB, *]
end Go.Proofs.Ytaclpbkbjmbceaa

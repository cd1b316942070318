/-
  RAFT: one alone wakes and leads.
-/
import Derived.Test.YtaclpbkbjmbceaaRy
set_option linter.unusedVariables false
set_option linter.unusedSimpArgs false
set_option maxRecDepth 100000
set_option maxHeartbeats 4000000
namespace Go.Proofs.Ytaclpbkbjmbceaa
open Go.Eng
def itr : Nat → Raft
  | 0 => Raft.new 1 1 1
  | n + 1 => (tickF (itr n)).1
theorem itr_may : (List.range 20).all (fun i => mayB (itr i)) = true := by kernel_rfl
theorem itr_end : (decide ((itr 20).role = 2) && (decide ((itr 20).term = 1) && decide ((itr 20).commit = 1))) = true := by kernel_rfl
theorem mayB_part {R : Raft} (h : mayB R = true) : R.part.size ≤ 524288 := by
  simp only [mayB, partB, Bool.and_eq_true, decide_eq_true_eq] at h
  have := h.2.2.2.2.2.1
  omega
theorem new1_m (w : World) : Meets Try.prog 5 [.int .i64 1, .int .i64 1, .int .u64 1] w (fpAll []) (fun v _ => v = .tuple #[.agg (newQ 1 1 1).enc.toArray, .int .i64 0]) :=
  (new_m 1 1 1 w).mono fun v As h => by
    rcases h with ⟨h, _⟩ | ⟨_, h, _⟩
    · exact absurd (by decide) h
    · exact h
theorem tickOK_m (R : RaftQ) (w : World) [hR : RaftAt w (fpAll []) R] (hm : mayB R.p = true) : Meets Try.prog 14 [.agg R.enc.toArray] w (fpAll []) (fun v As => ∃ (R' : RaftQ) (o' : At MsgQ), (R'.p, o'.l.map MsgQ.p) = tickF R.p ∧ v = .tuple #[.agg R'.enc.toArray, o'.v, .int .i64 0] ∧ As = [rowM o', entsA o'.l, rowE R'.log.ents, rowI R'.votes, rowI R'.next, rowI R'.mtch, rowI R'.sent, rowR R'.reads, acksA R'.reads.l]) :=
  (tick_m R w (mayB_p hm).small.q ⟨Nat.le_trans (mayB_p hm).snap (by decide), Nat.le_trans (mayB_part hm) (by decide)⟩).mono fun v As h => by
    rcases h with ⟨h, _⟩ | ⟨_, h⟩
    · rw [hm] at h
      cases h
    · exact h
theorem wakes_m (w : World) : Meets Try.prog 8 [] w (fpAll []) (fun v _ => v = .bool true) := by
  refine enter tysOK Try.func8 rfl Try.ntmps8 rfl (HeapOK.start w) ?_
  repeat (first | refine St.imp ?_ | (refine st_seq ?_; intro K hK) | refine st_t ?_ | refine st_f ?_ | refine st_miss ?_)
  refine a_val ?_ v_assign
  repeat (first | refine St.imp ?_ | (refine st_seq ?_; intro K hK) | refine st_t ?_ | refine st_f ?_ | refine st_miss ?_)
  (refine a_eff ?_ (e_callP rfl rfl fun w hw => new1_m w); rintro _ _ ⟨rfl, rfl⟩)
  refine a_val ?_ v_move
  refine a_val ?_ v_extract
  refine a_val ?_ v_extract
  (refine a_eff ?_ (e_alloc); rintro _ _ ⟨b1, rfl, rfl⟩)
  (refine a_effn ?_ ((e_storeW (vs := (newQ 1 1 1).enc))); rintro _ _ rfl)
  refine a_val ?_ v_assign
  repeat (first | refine St.imp ?_ | (refine st_seq ?_; intro K hK) | refine st_t ?_ | refine st_f ?_ | refine st_miss ?_)
  refine a_val ?_ v_move
  (refine a_eff ?_ (e_callP rfl rfl fun w hw => num_m 0 w); rintro _ _ ⟨rfl, rfl⟩)
  (first | refine a_val ?_ v_neq | refine a_val ?_ v_sneq | refine a_val ?_ v_bneq | refine a_val ?_ v_notNil)
  repeat (first | refine St.imp ?_ | (refine st_seq ?_; intro K hK) | refine st_t ?_ | refine st_f ?_ | refine st_miss ?_)
  refine a_val ?_ v_assign
  repeat (first | refine St.imp ?_ | (refine st_seq ?_; intro K hK) | refine st_t ?_ | refine st_f ?_ | refine st_miss ?_)
  refine a_loop (σ := Nat × RaftQ) (fun s => [(3, .int .i64 s.1), (1, .pointer (some ⟨b1, 0, none⟩))]) (fun s => [.blk b1 s.2.enc 32, rowE s.2.log.ents, rowI s.2.votes, rowI s.2.next, rowI s.2.mtch, rowI s.2.sent, rowR s.2.reads, acksA s.2.reads.l]) (fun s => s.1 ≤ 20 ∧ s.2.p = itr s.1) (fun s => 20 - s.1) (0, newQ 1 1 1) ⟨by decide, rfl⟩ ?_ (ha0 := ?ha0)
  case ha0 => exact Go.Eng.Ent.trans ent_rows0 (Go.Eng.Ent.trans (Go.Eng.Ent.nilrow 68 3) (Go.Eng.Ent.trans (Bs := [.blk b1 (newQ 1 1 1).enc 32, .row (.slice none 0 0) 68 3 [], rowI nilI, rowI nilI, rowI nilI, rowI nilI, rowR nilR, acksA []]) Go.Eng.Ent.pickC Go.Eng.Ent.refl))
  rintro ⟨i, R⟩ ⟨hi, hp⟩ KL hKL
  simp only at hi hp
  repeat (first | refine St.imp ?_ | (refine st_seq ?_; intro K hK) | refine st_t ?_ | refine st_f ?_ | refine st_miss ?_)
  refine a_val ?_ v_move
  refine a_val ?_ v_lss
  repeat (first | refine St.imp ?_ | (refine st_seq ?_; intro K hK) | refine st_t ?_ | refine st_f ?_ | refine st_miss ?_)
  refine a_cond (fun hc => ?_) (fun hc => ?_)
  · have hlt : i < 20 := by have := of_decide_eq_true hc; omega
    have hm : mayB R.p = true := by rw [hp]; exact List.all_eq_true.1 itr_may i (List.mem_range.2 hlt)
    have hsm : SmallQ R := (mayB_p hm).small.q
    repeat (first | refine St.imp ?_ | (refine st_seq ?_; intro K hK) | refine st_t ?_ | refine st_f ?_ | refine st_miss ?_)
    repeat (first | refine St.imp ?_ | (refine st_seq ?_; intro K hK) | refine st_t ?_ | refine st_f ?_ | refine st_miss ?_)
    refine a_val ?_ (v_loadA (vs := R.enc))
    (refine a_eff ?_ (e_callN rfl rfl fun w hw => (haveI := raftAt_rows (R := R) hw inferInstance hsm; tickOK_m R w hm)); rintro _ _ ⟨_, ⟨R', o', hp', rfl, rfl⟩, rfl⟩; simp only [List.cons_append, List.nil_append])
    refine a_val ?_ v_move
    refine a_val ?_ v_extract
    refine a_val ?_ v_extract
    refine a_val ?_ v_extract
    (refine a_effn ?_ ((e_storeW (vs := R'.enc))); rintro _ _ rfl)
    refine a_val ?_ v_assign
    repeat (first | refine St.imp ?_ | (refine st_seq ?_; intro K hK) | refine st_t ?_ | refine st_f ?_ | refine st_miss ?_)
    refine a_val ?_ v_move
    (refine a_eff ?_ (e_callP rfl rfl fun w hw => num_m 0 w); rintro _ _ ⟨rfl, rfl⟩)
    (first | refine a_val ?_ v_neq | refine a_val ?_ v_sneq | refine a_val ?_ v_bneq | refine a_val ?_ v_notNil)
    repeat (first | refine St.imp ?_ | (refine st_seq ?_; intro K hK) | refine st_t ?_ | refine st_f ?_ | refine st_miss ?_)
    refine a_val ?_ v_move
    (first | refine a_val ?_ v_add | refine a_val ?_ v_cat)
    refine a_val ?_ v_assign
    repeat (first | refine St.imp ?_ | (refine st_seq ?_; intro K hK) | refine st_t ?_ | refine st_f ?_ | refine st_miss ?_)
    exact a_weak (hKL (i + 1, R') ⟨by simp only; omega, by simp only; rw [itr, ← hp, ← hp']⟩ (by simp only; omega))
  · have hge : i = 20 := by have := of_decide_eq_false hc; omega
    subst hge
    have he := itr_end
    rw [← hp] at he
    simp only [Bool.and_eq_true, decide_eq_true_eq] at he
    obtain ⟨hr, ht, hcm⟩ := he
    have hr : R.role = 2 := hr
    have ht : R.term = 1 := ht
    have hcm : R.commit = 1 := hcm
    simp only [RaftQ.enc]
    repeat (first | refine St.imp ?_ | (refine st_seq ?_; intro K hK) | refine st_t ?_ | refine st_f ?_ | refine st_miss ?_)
    (first | refine a_val ?_ v_field | refine a_val ?_ v_fieldE | refine a_val ?_ v_field0)
    (first | refine a_val ?_ v_load | refine a_val ?_ v_loadA)
    (first | refine a_val ?_ v_eql | refine a_val ?_ v_seql | refine a_val ?_ v_beql | refine a_val ?_ v_isNil)
    refine a_val ?_ v_move
    refine a_case (fun hg => ?_) (fun hg => absurd hr (of_decide_eq_false hg))
    (first | refine a_val ?_ v_field | refine a_val ?_ v_fieldE | refine a_val ?_ v_field0 | refine a_skip ?_)
    (first | refine a_val ?_ v_load | refine a_val ?_ v_loadA | refine a_skip ?_)
    (first | refine a_val ?_ v_eql | refine a_val ?_ v_seql | refine a_val ?_ v_beql | refine a_val ?_ v_isNil | refine a_skip ?_)
    (first | refine a_val ?_ v_pickt | refine a_val ?_ v_pickf)
    refine a_val ?_ v_move
    refine a_case (fun hg => ?_) (fun hg => absurd ht (of_decide_eq_false hg))
    (first | refine a_val ?_ v_field | refine a_val ?_ v_fieldE | refine a_val ?_ v_field0 | refine a_skip ?_)
    (first | refine a_val ?_ v_load | refine a_val ?_ v_loadA | refine a_skip ?_)
    (first | refine a_val ?_ v_eql | refine a_val ?_ v_seql | refine a_val ?_ v_beql | refine a_val ?_ v_isNil | refine a_skip ?_)
    (first | refine a_val ?_ v_pickt | refine a_val ?_ v_pickf)
    refine a_val ?_ v_assign
    repeat (first | refine St.imp ?_ | (refine st_seq ?_; intro K hK) | refine st_t ?_ | refine st_f ?_ | refine st_miss ?_)
    first | refine a_ret Try.results8 ?_ | refine a_end Try.results8 ?_
    rw [decide_eq_true hcm]
end Go.Proofs.Ytaclpbkbjmbceaa

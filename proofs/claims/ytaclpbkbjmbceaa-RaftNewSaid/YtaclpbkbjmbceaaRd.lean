/-
  RAFT: a state's own small steps; what it says.
-/
import Derived.Test.YtaclpbkbjmbceaaRc
set_option linter.unusedVariables false
set_option linter.unusedSimpArgs false
set_option maxRecDepth 100000
set_option maxHeartbeats 2000000
namespace Go.Proofs.Ytaclpbkbjmbceaa
open Go.Eng
theorem next_m (s : Int) (w : World) : Meets Try.prog 16 [.int .u64 s] w (fpAll []) (fun v _ => v = .int .u64 (nextU s)) := by
  refine enter tysOK Try.func16 rfl Try.ntmps16 rfl (HeapOK.start w) ?_
  repeat (first | refine St.imp ?_ | (refine st_seq ?_; intro K hK) | refine st_t ?_ | refine st_f ?_ | refine st_miss ?_)
  refine a_val ?_ v_assign
  repeat (first | refine St.imp ?_ | (refine st_seq ?_; intro K hK) | refine st_t ?_ | refine st_f ?_ | refine st_miss ?_)
  refine a_val ?_ v_move
  repeat (first | refine St.imp ?_ | (refine st_seq ?_; intro K hK) | refine st_t ?_ | refine st_f ?_ | refine st_miss ?_)
  (first | refine a_val ?_ v_eql | refine a_val ?_ v_seql | refine a_val ?_ v_beql | refine a_val ?_ v_isNil)
  refine a_val ?_ v_assign
  repeat (first | refine St.imp ?_ | (refine st_seq ?_; intro K hK) | refine st_t ?_ | refine st_f ?_ | refine st_miss ?_)
  refine a_cond (fun hc => ?_) (fun hc => ?_)
  · have : s = 0 := by simpa using hc
    subst this
    repeat (first | refine St.imp ?_ | (refine st_seq ?_; intro K hK) | refine st_t ?_ | refine st_f ?_ | refine st_miss ?_)
    repeat (first | refine St.imp ?_ | (refine st_seq ?_; intro K hK) | refine st_t ?_ | refine st_f ?_ | refine st_miss ?_)
    refine a_val ?_ v_assign
    repeat (first | refine St.imp ?_ | (refine st_seq ?_; intro K hK) | refine st_t ?_ | refine st_f ?_ | refine st_miss ?_)
    refine a_val ?_ v_move
    refine a_val ?_ v_move
    refine a_val ?_ v_shl
    refine a_val ?_ v_xor
    refine a_val ?_ v_assign
    repeat (first | refine St.imp ?_ | (refine st_seq ?_; intro K hK) | refine st_t ?_ | refine st_f ?_ | refine st_miss ?_)
    refine a_val ?_ v_move
    refine a_val ?_ v_move
    refine a_val ?_ v_shr
    refine a_val ?_ v_xor
    refine a_val ?_ v_assign
    repeat (first | refine St.imp ?_ | (refine st_seq ?_; intro K hK) | refine st_t ?_ | refine st_f ?_ | refine st_miss ?_)
    refine a_val ?_ v_move
    refine a_val ?_ v_move
    refine a_val ?_ v_shl
    refine a_val ?_ v_xor
    refine a_val ?_ v_assign
    repeat (first | refine St.imp ?_ | (refine st_seq ?_; intro K hK) | refine st_t ?_ | refine st_f ?_ | refine st_miss ?_)
    refine a_val ?_ v_move
    refine a_val ?_ v_assign
    repeat (first | refine St.imp ?_ | (refine st_seq ?_; intro K hK) | refine st_t ?_ | refine st_f ?_ | refine st_miss ?_)
    first | refine a_ret Try.results16 ?_ | refine a_end Try.results16 ?_
    rfl
  · have : ¬ s = 0 := by simpa using hc
    repeat (first | refine St.imp ?_ | (refine st_seq ?_; intro K hK) | refine st_t ?_ | refine st_f ?_ | refine st_miss ?_)
    repeat (first | refine St.imp ?_ | (refine st_seq ?_; intro K hK) | refine st_t ?_ | refine st_f ?_ | refine st_miss ?_)
    refine a_val ?_ v_move
    refine a_val ?_ v_move
    refine a_val ?_ v_shl
    refine a_val ?_ v_xor
    refine a_val ?_ v_assign
    repeat (first | refine St.imp ?_ | (refine st_seq ?_; intro K hK) | refine st_t ?_ | refine st_f ?_ | refine st_miss ?_)
    refine a_val ?_ v_move
    refine a_val ?_ v_move
    refine a_val ?_ v_shr
    refine a_val ?_ v_xor
    refine a_val ?_ v_assign
    repeat (first | refine St.imp ?_ | (refine st_seq ?_; intro K hK) | refine st_t ?_ | refine st_f ?_ | refine st_miss ?_)
    refine a_val ?_ v_move
    refine a_val ?_ v_move
    refine a_val ?_ v_shl
    refine a_val ?_ v_xor
    refine a_val ?_ v_assign
    repeat (first | refine St.imp ?_ | (refine st_seq ?_; intro K hK) | refine st_t ?_ | refine st_f ?_ | refine st_miss ?_)
    refine a_val ?_ v_move
    refine a_val ?_ v_assign
    repeat (first | refine St.imp ?_ | (refine st_seq ?_; intro K hK) | refine st_t ?_ | refine st_f ?_ | refine st_miss ?_)
    first | refine a_ret Try.results16 ?_ | refine a_end Try.results16 ?_
    simp only [nextU, if_neg this]
theorem xorI_u64 (m n : Int) : 0 ≤ xorI .u64 m n ∧ xorI .u64 m n < 18446744073709551616 := by
  unfold xorI
  rw [IntKind.wrap_u64]
  omega
theorem nextU_nn (s : Int) : 0 ≤ nextU s := by
  unfold nextU
  exact (xorI_u64 _ _).1
theorem tmod10 (s : Int) (h : 0 ≤ s) : 0 ≤ s.tmod 10 ∧ s.tmod 10 < 10 := ⟨Int.tmod_nonneg _ h, Int.tmod_lt_of_pos _ (by omega)⟩
theorem draw_m (b : Nat) (R : RaftQ) (tl : List Value) (u : TypeId) (w : World) (hb : HeapOK w (fpAll [blkR b R tl u]) [blkR b R tl u] w) : Meets Try.prog 10 [ptrB b] w (fpAll [blkR b R tl u]) (fun v As => v = .tuple #[] ∧ As = [blkR b { R with seed := nextU R.seed, timeout := 10 + (nextU R.seed).tmod 10, elapsed := 0 } tl u]) := by
  have ht := tmod10 _ (nextU_nn R.seed)
  refine enter tysOK Try.func10 rfl Try.ntmps10 rfl (hb) ?_
  repeat (first | refine St.imp ?_ | (refine st_seq ?_; intro K hK) | refine st_t ?_ | refine st_f ?_ | refine st_miss ?_)
  refine a_val ?_ v_move
  refine a_val ?_ v_move
  (first | refine a_val ?_ v_nilCheck | refine a_val ?_ v_nilCheckF)
  (first | refine a_val ?_ v_field | refine a_val ?_ v_fieldE | refine a_val ?_ v_field0)
  (first | refine a_val ?_ v_field | refine a_val ?_ v_fieldE | refine a_val ?_ v_field0)
  (first | refine a_val ?_ v_load | refine a_val ?_ v_loadA)
  (refine a_eff ?_ (e_callP rfl rfl fun w hw => next_m _ w); rintro _ _ ⟨rfl, rfl⟩)
  (first | refine a_val ?_ v_nilCheck | refine a_val ?_ v_nilCheckF)
  (first | refine a_val ?_ v_field | refine a_val ?_ v_fieldE | refine a_val ?_ v_field0)
  (first | refine a_val ?_ v_field | refine a_val ?_ v_fieldE | refine a_val ?_ v_field0)
  (first | (refine a_effn ?_ e_store; rintro _ _ rfl) | (refine a_effn ?_ e_storeW; rintro _ _ rfl) | (refine a_effn ?_ e_storeA; rintro _ _ rfl))
  repeat (first | refine St.imp ?_ | (refine st_seq ?_; intro K hK) | refine st_t ?_ | refine st_f ?_ | refine st_miss ?_)
  refine a_val ?_ v_move
  refine a_val ?_ v_move
  (first | refine a_val ?_ v_nilCheck | refine a_val ?_ v_nilCheckF)
  (first | refine a_val ?_ v_field | refine a_val ?_ v_fieldE | refine a_val ?_ v_field0)
  (first | refine a_val ?_ v_field | refine a_val ?_ v_fieldE | refine a_val ?_ v_field0)
  (first | refine a_val ?_ v_load | refine a_val ?_ v_loadA)
  refine a_val ?_ v_rem
  refine a_val ?_ v_convert
  have e1 : IntKind.i64.wrap ((nextU R.seed).tmod 10) = (nextU R.seed).tmod 10 := by rw [IntKind.wrap_i64]; omega
  rw [e1]
  (first | refine a_val ?_ v_add | refine a_val ?_ v_cat)
  (first | refine a_val ?_ v_nilCheck | refine a_val ?_ v_nilCheckF)
  (first | refine a_val ?_ v_field | refine a_val ?_ v_fieldE | refine a_val ?_ v_field0)
  (first | refine a_val ?_ v_field | refine a_val ?_ v_fieldE | refine a_val ?_ v_field0)
  (first | (refine a_effn ?_ e_store; rintro _ _ rfl) | (refine a_effn ?_ e_storeW; rintro _ _ rfl) | (refine a_effn ?_ e_storeA; rintro _ _ rfl))
  repeat (first | refine St.imp ?_ | (refine st_seq ?_; intro K hK) | refine st_t ?_ | refine st_f ?_ | refine st_miss ?_)
  refine a_val ?_ v_move
  (first | refine a_val ?_ v_nilCheck | refine a_val ?_ v_nilCheckF)
  (first | refine a_val ?_ v_field | refine a_val ?_ v_fieldE | refine a_val ?_ v_field0)
  (first | refine a_val ?_ v_field | refine a_val ?_ v_fieldE | refine a_val ?_ v_field0)
  (first | (refine a_effn ?_ e_store; rintro _ _ rfl) | (refine a_effn ?_ e_storeW; rintro _ _ rfl) | (refine a_effn ?_ e_storeA; rintro _ _ rfl))
  repeat (first | refine St.imp ?_ | (refine st_seq ?_; intro K hK) | refine st_t ?_ | refine st_f ?_ | refine st_miss ?_)
  first | refine a_ret Try.results10 ?_ | refine a_end Try.results10 ?_
  exact ⟨rfl, rfl⟩
theorem forget_m (b : Nat) (R : RaftQ) (tl : List Value) (u : TypeId) (w : World) (hb : HeapOK w (fpAll [blkR b R tl u]) [blkR b R tl u] w) : Meets Try.prog 31 [ptrB b] w (fpAll [blkR b R tl u]) (fun v As => v = .tuple #[] ∧ As = [blkR b { R with part := noB, partOf := 0 } tl u]) := by
  refine enter tysOK Try.func31 rfl Try.ntmps31 rfl (hb) ?_
  repeat (first | refine St.imp ?_ | (refine st_seq ?_; intro K hK) | refine st_t ?_ | refine st_f ?_ | refine st_miss ?_)
  refine a_val ?_ v_move
  refine a_val ?_ v_move
  (first | refine a_val ?_ v_nilCheck | refine a_val ?_ v_nilCheckF)
  (first | refine a_val ?_ v_field | refine a_val ?_ v_fieldE | refine a_val ?_ v_field0)
  (first | refine a_val ?_ v_field | refine a_val ?_ v_fieldE | refine a_val ?_ v_field0)
  (first | (refine a_effn ?_ e_store; rintro _ _ rfl) | (refine a_effn ?_ e_storeW; rintro _ _ rfl) | (refine a_effn ?_ e_storeA; rintro _ _ rfl))
  (first | refine a_val ?_ v_nilCheck | refine a_val ?_ v_nilCheckF)
  (first | refine a_val ?_ v_field | refine a_val ?_ v_fieldE | refine a_val ?_ v_field0)
  (first | refine a_val ?_ v_field | refine a_val ?_ v_fieldE | refine a_val ?_ v_field0)
  (first | (refine a_effn ?_ e_store; rintro _ _ rfl) | (refine a_effn ?_ e_storeW; rintro _ _ rfl) | (refine a_effn ?_ e_storeA; rintro _ _ rfl))
  repeat (first | refine St.imp ?_ | (refine st_seq ?_; intro K hK) | refine st_t ?_ | refine st_f ?_ | refine st_miss ?_)
  first | refine a_ret Try.results31 ?_ | refine a_end Try.results31 ?_
  exact ⟨rfl, rfl⟩
theorem last_m (b : Nat) (R : RaftQ) (tl : List Value) (u : TypeId) (w : World) (hb : HeapOK w (fpAll [blkR b R tl u]) [blkR b R tl u] w) [hl : LogAt w (fpAll [blkR b R tl u]) R.log] : Meets Try.prog 32 [ptrB b] w (fpAll [blkR b R tl u]) (fun v As => v = .tuple #[.int .i64 R.log.p.endI, .int .i64 R.log.p.endT] ∧ As = [blkR b R tl u]) := by
  refine enter tysOK Try.func32 rfl Try.ntmps32 rfl (hb) ?_
  repeat (first | refine St.imp ?_ | (refine st_seq ?_; intro K hK) | refine st_t ?_ | refine st_f ?_ | refine st_miss ?_)
  refine a_val ?_ v_assign
  refine a_val ?_ v_assign
  repeat (first | refine St.imp ?_ | (refine st_seq ?_; intro K hK) | refine st_t ?_ | refine st_f ?_ | refine st_miss ?_)
  refine a_val ?_ v_move
  (first | refine a_val ?_ v_nilCheck | refine a_val ?_ v_nilCheckF)
  (first | refine a_val ?_ v_field | refine a_val ?_ v_fieldE | refine a_val ?_ v_field0)
  (first | refine a_val ?_ v_field | refine a_val ?_ v_fieldE | refine a_val ?_ v_field0)
  refine a_val ?_ (v_loadA (vs := R.log.enc))
  (refine a_eff ?_ (e_callP rfl rfl fun w hw => end_m R.log w); rintro _ _ ⟨rfl, rfl⟩)
  refine a_val ?_ v_extract
  refine a_val ?_ v_extract
  refine a_val ?_ v_assign
  refine a_val ?_ v_assign
  repeat (first | refine St.imp ?_ | (refine st_seq ?_; intro K hK) | refine st_t ?_ | refine st_f ?_ | refine st_miss ?_)
  first | refine a_ret Try.results32 ?_ | refine a_end Try.results32 ?_
  exact ⟨rfl, rfl⟩
/-- A state without what only a leader, or a candidate, has. -/
abbrev RaftQ.alone (R : RaftQ) : RaftQ := { R with votes := ⟨[], none, 0⟩, next := ⟨[], none, 0⟩, mtch := ⟨[], none, 0⟩, sent := ⟨[], none, 0⟩, reads := ⟨[], none, 0⟩ }
abbrev RaftQ.falls (R : RaftQ) (t : Int) : RaftQ := if R.term < t then { R.alone with role := 0, leader := 0, term := t, vote := 0, part := noB, partOf := 0 } else { R.alone with role := 0, leader := 0 }
theorem back_m (b : Nat) (R : RaftQ) (t : Int) (tl : List Value) (u : TypeId) (w : World) (hb : HeapOK w (fpAll [blkR b R tl u]) [blkR b R tl u] w) : Meets Try.prog 50 [ptrB b, .int .i64 t] w (fpAll [blkR b R tl u]) (fun v As => v = .tuple #[] ∧ As = [blkR b (R.falls t) tl u]) := by
  refine enter tysOK Try.func50 rfl Try.ntmps50 rfl (hb) ?_
  repeat (first | refine St.imp ?_ | (refine st_seq ?_; intro K hK) | refine st_t ?_ | refine st_f ?_ | refine st_miss ?_)
  refine a_val ?_ v_move
  refine a_val ?_ v_move
  (first | refine a_val ?_ v_nilCheck | refine a_val ?_ v_nilCheckF)
  (first | refine a_val ?_ v_field | refine a_val ?_ v_fieldE | refine a_val ?_ v_field0)
  (first | refine a_val ?_ v_field | refine a_val ?_ v_fieldE | refine a_val ?_ v_field0)
  (first | (refine a_effn ?_ e_store; rintro _ _ rfl) | (refine a_effn ?_ e_storeW; rintro _ _ rfl) | (refine a_effn ?_ e_storeA; rintro _ _ rfl))
  (first | refine a_val ?_ v_nilCheck | refine a_val ?_ v_nilCheckF)
  (first | refine a_val ?_ v_field | refine a_val ?_ v_fieldE | refine a_val ?_ v_field0)
  (first | refine a_val ?_ v_field | refine a_val ?_ v_fieldE | refine a_val ?_ v_field0)
  (first | (refine a_effn ?_ e_store; rintro _ _ rfl) | (refine a_effn ?_ e_storeW; rintro _ _ rfl) | (refine a_effn ?_ e_storeA; rintro _ _ rfl))
  repeat (first | refine St.imp ?_ | (refine st_seq ?_; intro K hK) | refine st_t ?_ | refine st_f ?_ | refine st_miss ?_)
  refine a_val ?_ v_move
  refine a_val ?_ v_move
  refine a_val ?_ v_move
  refine a_val ?_ v_move
  refine a_val ?_ v_move
  (first | refine a_val ?_ v_nilCheck | refine a_val ?_ v_nilCheckF)
  (first | refine a_val ?_ v_field | refine a_val ?_ v_fieldE | refine a_val ?_ v_field0)
  (first | refine a_val ?_ v_field | refine a_val ?_ v_fieldE | refine a_val ?_ v_field0)
  (first | (refine a_effn ?_ e_store; rintro _ _ rfl) | (refine a_effn ?_ e_storeW; rintro _ _ rfl) | (refine a_effn ?_ e_storeA; rintro _ _ rfl))
  (first | refine a_val ?_ v_nilCheck | refine a_val ?_ v_nilCheckF)
  (first | refine a_val ?_ v_field | refine a_val ?_ v_fieldE | refine a_val ?_ v_field0)
  (first | refine a_val ?_ v_field | refine a_val ?_ v_fieldE | refine a_val ?_ v_field0)
  (first | (refine a_effn ?_ e_store; rintro _ _ rfl) | (refine a_effn ?_ e_storeW; rintro _ _ rfl) | (refine a_effn ?_ e_storeA; rintro _ _ rfl))
  (first | refine a_val ?_ v_nilCheck | refine a_val ?_ v_nilCheckF)
  (first | refine a_val ?_ v_field | refine a_val ?_ v_fieldE | refine a_val ?_ v_field0)
  (first | refine a_val ?_ v_field | refine a_val ?_ v_fieldE | refine a_val ?_ v_field0)
  (first | (refine a_effn ?_ e_store; rintro _ _ rfl) | (refine a_effn ?_ e_storeW; rintro _ _ rfl) | (refine a_effn ?_ e_storeA; rintro _ _ rfl))
  (first | refine a_val ?_ v_nilCheck | refine a_val ?_ v_nilCheckF)
  (first | refine a_val ?_ v_field | refine a_val ?_ v_fieldE | refine a_val ?_ v_field0)
  (first | refine a_val ?_ v_field | refine a_val ?_ v_fieldE | refine a_val ?_ v_field0)
  (first | (refine a_effn ?_ e_store; rintro _ _ rfl) | (refine a_effn ?_ e_storeW; rintro _ _ rfl) | (refine a_effn ?_ e_storeA; rintro _ _ rfl))
  (first | refine a_val ?_ v_nilCheck | refine a_val ?_ v_nilCheckF)
  (first | refine a_val ?_ v_field | refine a_val ?_ v_fieldE | refine a_val ?_ v_field0)
  (first | refine a_val ?_ v_field | refine a_val ?_ v_fieldE | refine a_val ?_ v_field0)
  (first | (refine a_effn ?_ e_store; rintro _ _ rfl) | (refine a_effn ?_ e_storeW; rintro _ _ rfl) | (refine a_effn ?_ e_storeA; rintro _ _ rfl))
  repeat (first | refine St.imp ?_ | (refine st_seq ?_; intro K hK) | refine st_t ?_ | refine st_f ?_ | refine st_miss ?_)
  refine a_val ?_ v_move
  refine a_val ?_ v_move
  (first | refine a_val ?_ v_nilCheck | refine a_val ?_ v_nilCheckF)
  (first | refine a_val ?_ v_field | refine a_val ?_ v_fieldE | refine a_val ?_ v_field0)
  (first | refine a_val ?_ v_field | refine a_val ?_ v_fieldE | refine a_val ?_ v_field0)
  (first | refine a_val ?_ v_load | refine a_val ?_ v_loadA)
  refine a_val ?_ v_gtr
  repeat (first | refine St.imp ?_ | (refine st_seq ?_; intro K hK) | refine st_t ?_ | refine st_f ?_ | refine st_miss ?_)
  refine a_cond (fun hc => ?_) (fun hc => ?_)
  · have : R.term < t := by simpa using hc
    repeat (first | refine St.imp ?_ | (refine st_seq ?_; intro K hK) | refine st_t ?_ | refine st_f ?_ | refine st_miss ?_)
    refine a_val ?_ v_move
    refine a_val ?_ v_move
    refine a_val ?_ v_move
    (first | refine a_val ?_ v_nilCheck | refine a_val ?_ v_nilCheckF)
    (first | refine a_val ?_ v_field | refine a_val ?_ v_fieldE | refine a_val ?_ v_field0)
    (first | refine a_val ?_ v_field | refine a_val ?_ v_fieldE | refine a_val ?_ v_field0)
    (first | (refine a_effn ?_ e_store; rintro _ _ rfl) | (refine a_effn ?_ e_storeW; rintro _ _ rfl) | (refine a_effn ?_ e_storeA; rintro _ _ rfl))
    (first | refine a_val ?_ v_nilCheck | refine a_val ?_ v_nilCheckF)
    (first | refine a_val ?_ v_field | refine a_val ?_ v_fieldE | refine a_val ?_ v_field0)
    (first | refine a_val ?_ v_field | refine a_val ?_ v_fieldE | refine a_val ?_ v_field0)
    (first | (refine a_effn ?_ e_store; rintro _ _ rfl) | (refine a_effn ?_ e_storeW; rintro _ _ rfl) | (refine a_effn ?_ e_storeA; rintro _ _ rfl))
    repeat (first | refine St.imp ?_ | (refine st_seq ?_; intro K hK) | refine st_t ?_ | refine st_f ?_ | refine st_miss ?_)
    refine a_val ?_ v_move
    (refine a_eff ?_ (e_callO [blkR b { R.alone with role := 0, leader := 0, term := t, vote := 0 } tl u] rfl rfl fun w hw hb => forget_m b _ tl u w hb); rintro _ _ ⟨_, ⟨rfl, rfl⟩, rfl⟩; simp only [List.cons_append, List.nil_append])
    repeat (first | refine St.imp ?_ | (refine st_seq ?_; intro K hK) | refine st_t ?_ | refine st_f ?_ | refine st_miss ?_)
    first | refine a_ret Try.results50 ?_ | refine a_end Try.results50 ?_
    exact ⟨rfl, by simp only [RaftQ.falls, if_pos this]⟩
  · have : ¬ R.term < t := by simpa using hc
    repeat (first | refine St.imp ?_ | (refine st_seq ?_; intro K hK) | refine st_t ?_ | refine st_f ?_ | refine st_miss ?_)
    first | refine a_ret Try.results50 ?_ | refine a_end Try.results50 ?_
    exact ⟨rfl, by simp only [RaftQ.falls, if_neg this]; rfl⟩
theorem put_m (b : Nat) (R : RaftQ) (data : ByteArray) (tl : List Value) (u : TypeId) (w : World) (hb : HeapOK w (fpAll [blkR b R tl u, rowE R.log.ents]) [blkR b R tl u, rowE R.log.ents] w) (hlog : logB R.p.log = true) : Meets Try.prog 49 [ptrB b, .string data] w (fpAll [blkR b R tl u, rowE R.log.ents]) (fun v As => (R.p.full = true ∧ v = .bool false ∧ As = [blkR b R tl u, rowE R.log.ents]) ∨ (R.p.full = false ∧ v = .bool true ∧ ∃ x : At Ent, x.l = R.log.ents.l ++ [⟨R.log.p.endI + 1, R.term, data⟩] ∧ As = [blkR b { R with log := ⟨R.log.base, R.log.baseTerm, x⟩ } tl u, rowE x])) := by
  have hend : R.log.p.endI = R.log.base + R.log.ents.l.length := log_end hlog
  have hbb : 0 ≤ R.log.base ∧ R.log.base ≤ 1099511625728 ∧ (R.log.ents.l.length : Int) ≤ 512 := by
    have h := hlog
    simp [logB] at h
    exact ⟨h.1, h.2.1, h.2.2.2.1⟩
  have hlc : LenC R.log.ents.l := ⟨by omega⟩
  refine enter tysOK Try.func49 rfl Try.ntmps49 rfl (hb) ?_
  repeat (first | refine St.imp ?_ | (refine st_seq ?_; intro K hK) | refine st_t ?_ | refine st_f ?_ | refine st_miss ?_)
  refine a_val ?_ v_assign
  repeat (first | refine St.imp ?_ | (refine st_seq ?_; intro K hK) | refine st_t ?_ | refine st_f ?_ | refine st_miss ?_)
  refine a_val ?_ v_move
  (refine a_eff ?_ (e_callO [blkR b R tl u] rfl rfl fun w hw hb => last_m b R tl u w hb); rintro _ _ ⟨_, ⟨rfl, rfl⟩, rfl⟩; simp only [List.cons_append, List.nil_append])
  refine a_val ?_ v_move
  refine a_val ?_ v_extract
  refine a_val ?_ v_extract
  refine a_val ?_ v_assign
  refine a_val ?_ v_assign
  repeat (first | refine St.imp ?_ | (refine st_seq ?_; intro K hK) | refine st_t ?_ | refine st_f ?_ | refine st_miss ?_)
  refine a_val ?_ v_move
  (first | refine a_val ?_ v_nilCheck | refine a_val ?_ v_nilCheckF)
  (first | refine a_val ?_ v_field | refine a_val ?_ v_fieldE | refine a_val ?_ v_field0)
  (first | refine a_val ?_ v_field | refine a_val ?_ v_fieldE | refine a_val ?_ v_field0)
  (first | refine a_val ?_ v_field | refine a_val ?_ v_fieldE | refine a_val ?_ v_field0)
  (first | refine a_val ?_ v_load | refine a_val ?_ v_loadA)
  (first | refine a_val ?_ v_len | refine a_val ?_ v_lenS)
  (first | refine a_val ?_ v_eql | refine a_val ?_ v_seql | refine a_val ?_ v_beql | refine a_val ?_ v_isNil)
  refine a_val ?_ v_move
  refine a_case (fun hg => ?_) (fun hg => ?_)
  · repeat (first | refine a_skip ?_ | refine a_skipn ?_ | refine a_val ?_ v_pickt | refine a_val ?_ v_pickf | refine a_val ?_ v_move | refine a_val ?_ v_assign | refine St.imp ?_ | refine st_t ?_ | refine st_f ?_ | refine st_miss ?_ | (refine st_seq ?_; intro K hK))
    first | refine a_ret Try.results49 ?_ | refine a_end Try.results49 ?_
    have : (R.log.ents.l.length : Int) = 512 := by simpa using hg
    exact .inl ⟨by simp [Raft.full, this], rfl, rfl⟩
  have hne : ¬ (R.log.ents.l.length : Int) = 512 := by simpa using hg
  (first | refine a_val ?_ v_move | refine a_skip ?_)
  (first | refine a_val ?_ v_eql | refine a_val ?_ v_seql | refine a_val ?_ v_beql | refine a_val ?_ v_isNil | refine a_skip ?_)
  (first | refine a_val ?_ v_pickt | refine a_val ?_ v_pickf)
  repeat (first | refine St.imp ?_ | (refine st_seq ?_; intro K hK) | refine st_t ?_ | refine st_f ?_ | refine st_miss ?_)
  refine a_cond (fun hc => ?_) (fun hc => ?_)
  · repeat (first | refine St.imp ?_ | (refine st_seq ?_; intro K hK) | refine st_t ?_ | refine st_f ?_ | refine st_miss ?_)
    refine a_val ?_ v_assign
    repeat (first | refine St.imp ?_ | (refine st_seq ?_; intro K hK) | refine st_t ?_ | refine st_f ?_ | refine st_miss ?_)
    first | refine a_ret Try.results49 ?_ | refine a_end Try.results49 ?_
    have : R.log.p.endI = 1099511627776 := by simpa using hc
    exact .inl ⟨by simp [Raft.full, this], rfl, rfl⟩
  have hne2 : ¬ R.log.p.endI = 1099511627776 := by simpa using hc
  repeat (first | refine St.imp ?_ | (refine st_seq ?_; intro K hK) | refine st_t ?_ | refine st_f ?_ | refine st_miss ?_)
  refine a_mixC [] [0, 1, 2, 3, 4, 5, 6, 7, 8, 9, 10, 11, 12, 13, 14, 15, 16, 17, 18, 19, 20, 21, 22] [blkR b R tl u] ?_
  refine m_val rfl ?_ v_move
  refine m_val rfl ?_ v_move
  (first | refine m_val rfl ?_ v_nilCheck | refine m_val rfl ?_ v_nilCheckF)
  (first | refine m_val rfl ?_ v_field | refine m_val rfl ?_ v_fieldE | refine m_val rfl ?_ v_field0)
  (first | refine m_val rfl ?_ v_field | refine m_val rfl ?_ v_fieldE | refine m_val rfl ?_ v_field0)
  (first | refine m_val rfl ?_ v_field | refine m_val rfl ?_ v_fieldE | refine m_val rfl ?_ v_field0)
  (first | refine m_val rfl ?_ v_load | refine m_val rfl ?_ v_loadA)
  refine m_val rfl ?_ v_move
  (first | refine m_val rfl ?_ v_add | refine m_val rfl ?_ v_cat)
  refine m_val rfl ?_ v_move
  (first | refine m_val rfl ?_ v_nilCheck | refine m_val rfl ?_ v_nilCheckF)
  (first | refine m_val rfl ?_ v_field | refine m_val rfl ?_ v_fieldE | refine m_val rfl ?_ v_field0)
  (first | refine m_val rfl ?_ v_field | refine m_val rfl ?_ v_fieldE | refine m_val rfl ?_ v_field0)
  (first | refine m_val rfl ?_ v_load | refine m_val rfl ?_ v_loadA)
  refine m_val rfl ?_ v_move
  refine m_val rfl ?_ (v_build (vs := Ent.enc ⟨R.log.p.endI + 1, R.term, data⟩))
  (first | (refine m_eff rfl ?_ e_buildSlice1; rintro _ _ ⟨bz, rfl, rfl⟩; refine m_go ?_) | (refine m_eff rfl ?_ e_buildSlice0; rintro _ _ ⟨bz, rfl, rfl⟩; refine m_go ?_) | (refine m_eff rfl ?_ e_buildSliceN; rintro _ _ ⟨bz, rfl, rfl⟩; refine m_go ?_))
  (refine m_eff rfl ?_ (e_appendM (Ent.mk (R.log.p.endI + 1) R.term data)); rintro _ _ ⟨Ax, cx, rfl, rfl⟩; refine m_go ?_)
  (first | refine m_val rfl ?_ v_nilCheck | refine m_val rfl ?_ v_nilCheckF)
  (first | refine m_val rfl ?_ v_field | refine m_val rfl ?_ v_fieldE | refine m_val rfl ?_ v_field0)
  (first | refine m_val rfl ?_ v_field | refine m_val rfl ?_ v_fieldE | refine m_val rfl ?_ v_field0)
  (first | refine m_val rfl ?_ v_field | refine m_val rfl ?_ v_fieldE | refine m_val rfl ?_ v_field0)
  (first | (refine m_effn rfl ?_ e_store; rintro _ _ rfl; refine m_go ?_) | (refine m_effn rfl ?_ e_storeW; rintro _ _ rfl; refine m_go ?_) | (refine m_effn rfl ?_ e_storeA; rintro _ _ rfl; refine m_go ?_))
  repeat (first | refine St.imp ?_ | (refine st_seq ?_; intro K hK) | refine st_t ?_ | refine st_f ?_ | refine st_miss ?_)
  refine a_val ?_ v_assign
  repeat (first | refine St.imp ?_ | (refine st_seq ?_; intro K hK) | refine st_t ?_ | refine st_f ?_ | refine st_miss ?_)
  first | refine a_retP [blkR b { R with log := ⟨R.log.base, R.log.baseTerm, ⟨R.log.ents.l ++ [⟨R.log.p.endI + 1, R.term, data⟩], Ax, cx⟩⟩ } tl u, rowE ⟨R.log.ents.l ++ [⟨R.log.p.endI + 1, R.term, data⟩], Ax, cx⟩] Try.results49 ?_ | refine a_endP [blkR b { R with log := ⟨R.log.base, R.log.baseTerm, ⟨R.log.ents.l ++ [⟨R.log.p.endI + 1, R.term, data⟩], Ax, cx⟩⟩ } tl u, rowE ⟨R.log.ents.l ++ [⟨R.log.p.endI + 1, R.term, data⟩], Ax, cx⟩] Try.results49 ?_
  exact .inr ⟨by simp [Raft.full, hne, hne2], rfl, _, rfl, rfl⟩
theorem say_m (b g : Nat) (R : RaftQ) (out : At MsgQ) (m : MsgQ) (u : TypeId) (w : World) (hb : HeapOK w (fpAll (rowE m.ents :: stepB b R out u)) (rowE m.ents :: stepB b R out u) w) [hm : Sl w (fpAll (rowE m.ents :: stepB b R out u)) MsgQ.enc 13 [m] (some ⟨g, 0, none⟩) 1] (hlen : out.l.length ≤ 100000) :
    Meets Try.prog 34 [ptrB b, .slice (some ⟨g, 0, none⟩) 1 1] w (fpAll (rowE m.ents :: stepB b R out u)) (fun v As => v = .tuple #[] ∧ ∃ out' : At MsgQ, out'.l = out.l ++ [{ m with src := R.id, term := R.term }] ∧ As = stepB b R out' u) := by
  refine enter tysOK Try.func34 rfl Try.ntmps34 rfl (hb) ?_
  repeat (first | refine St.imp ?_ | (refine st_seq ?_; intro K hK) | refine st_t ?_ | refine st_f ?_ | refine st_miss ?_)
  refine a_val ?_ v_move
  (first | refine a_val ?_ v_len | refine a_val ?_ v_lenS)
  refine a_val ?_ v_move
  repeat (first | refine St.imp ?_ | (refine st_seq ?_; intro K hK) | refine st_t ?_ | refine st_f ?_ | refine st_miss ?_)
  refine a_for 1 (fun j s => [(6, .slice (some ⟨g, 0, none⟩) 1 1), (7, .int .i64 1), (8, .int .i64 j), (0, ptrB b)]) (fun j s => if j = 0 then rowE m.ents :: stepB b R out u else stepB b R s u) (fun j s => 0 < j → s.l = out.l ++ [{ m with src := R.id, term := R.term }]) out (by simp) ?_
  intro j s h0 h1 hs KL hKL
  repeat (first | refine St.imp ?_ | (refine st_seq ?_; intro K hK) | refine st_t ?_ | refine st_f ?_ | refine st_miss ?_)
  refine a_val ?_ v_lss
  repeat (first | refine St.imp ?_ | (refine st_seq ?_; intro K hK) | refine st_t ?_ | refine st_f ?_ | refine st_miss ?_)
  refine a_cond (fun hc => ?_) (fun hc => ?_)
  · have hj : j = 0 := by simp at hc; omega
    subst hj
    simp only [if_true]
    have hx : ([m] : List MsgQ)[(0 : Int).toNat]? = some m := rfl
    repeat (first | refine St.imp ?_ | (refine st_seq ?_; intro K hK) | refine st_t ?_ | refine st_f ?_ | refine st_miss ?_)
    repeat (first | refine St.imp ?_ | (refine st_seq ?_; intro K hK) | refine st_t ?_ | refine st_f ?_ | refine st_miss ?_)
    (first | refine a_val ?_ v_index | refine a_val ?_ v_indexB)
    (first | refine a_val ?_ v_load | refine a_val ?_ v_loadA | refine a_val ?_ (v_loadE hx) | refine a_val ?_ (v_loadE0 hx) | refine a_val ?_ (v_loadEA hx) | refine a_val ?_ (v_loadEA0 hx))
    (refine a_eff ?_ e_alloc; rintro _ _ ⟨bz, rfl, rfl⟩)
    simp only [MsgQ.enc]
    (first | (refine a_effn ?_ e_store; rintro _ _ rfl) | (refine a_effn ?_ e_storeW; rintro _ _ rfl) | (refine a_effn ?_ e_storeA; rintro _ _ rfl) | (refine a_effn ?_ (e_storeE hx); rintro _ _ rfl) | (refine a_effn ?_ (e_storeE0 hx); rintro _ _ rfl))
    repeat (first | refine St.imp ?_ | (refine st_seq ?_; intro K hK) | refine st_t ?_ | refine st_f ?_ | refine st_miss ?_)
    rename Nat => b5
    repeat (first | refine St.imp ?_ | (refine st_seq ?_; intro K hK) | refine st_t ?_ | refine st_f ?_ | refine st_miss ?_)
    refine a_mixC [] [0, 1, 2, 3, 4, 5, 6, 7, 8, 9, 10, 11, 12, 13, 14, 15] [blkR b R [out.v] u] ?_
    refine m_val rfl ?_ v_move
    (first | refine m_val rfl ?_ v_nilCheck | refine m_val rfl ?_ v_nilCheckF)
    (first | refine m_val rfl ?_ v_field | refine m_val rfl ?_ v_fieldE | refine m_val rfl ?_ v_field0)
    (first | refine m_val rfl ?_ v_field | refine m_val rfl ?_ v_fieldE | refine m_val rfl ?_ v_field0)
    (first | refine m_val rfl ?_ v_field | refine m_val rfl ?_ v_fieldE | refine m_val rfl ?_ v_field0)
    (first | refine m_val rfl ?_ v_load | refine m_val rfl ?_ v_loadA | refine m_val rfl ?_ (v_loadE hx) | refine m_val rfl ?_ (v_loadE0 hx) | refine m_val rfl ?_ (v_loadEA hx) | refine m_val rfl ?_ (v_loadEA0 hx))
    refine m_val rfl ?_ v_move
    (first | refine m_val rfl ?_ v_nilCheck | refine m_val rfl ?_ v_nilCheckF)
    (first | refine m_val rfl ?_ v_field | refine m_val rfl ?_ v_fieldE | refine m_val rfl ?_ v_field0)
    (first | refine m_val rfl ?_ v_field | refine m_val rfl ?_ v_fieldE | refine m_val rfl ?_ v_field0)
    (first | refine m_val rfl ?_ v_field | refine m_val rfl ?_ v_fieldE | refine m_val rfl ?_ v_field0)
    (first | refine m_val rfl ?_ v_load | refine m_val rfl ?_ v_loadA | refine m_val rfl ?_ (v_loadE hx) | refine m_val rfl ?_ (v_loadE0 hx) | refine m_val rfl ?_ (v_loadEA hx) | refine m_val rfl ?_ (v_loadEA0 hx))
    (first | refine m_val rfl ?_ v_field | refine m_val rfl ?_ v_fieldE | refine m_val rfl ?_ v_field0)
    (first | (refine m_effn rfl ?_ e_store; rintro _ _ rfl; refine m_go ?_) | (refine m_effn rfl ?_ e_storeW; rintro _ _ rfl; refine m_go ?_) | (refine m_effn rfl ?_ e_storeA; rintro _ _ rfl; refine m_go ?_) | (refine m_effn rfl ?_ (e_storeE hx); rintro _ _ rfl; refine m_go ?_) | (refine m_effn rfl ?_ (e_storeE0 hx); rintro _ _ rfl; refine m_go ?_))
    (first | refine m_val rfl ?_ v_field | refine m_val rfl ?_ v_fieldE | refine m_val rfl ?_ v_field0)
    (first | (refine m_effn rfl ?_ e_store; rintro _ _ rfl; refine m_go ?_) | (refine m_effn rfl ?_ e_storeW; rintro _ _ rfl; refine m_go ?_) | (refine m_effn rfl ?_ e_storeA; rintro _ _ rfl; refine m_go ?_) | (refine m_effn rfl ?_ (e_storeE hx); rintro _ _ rfl; refine m_go ?_) | (refine m_effn rfl ?_ (e_storeE0 hx); rintro _ _ rfl; refine m_go ?_))
    repeat (first | refine St.imp ?_ | (refine st_seq ?_; intro K hK) | refine st_t ?_ | refine st_f ?_ | refine st_miss ?_)
    refine a_castC (Cs := .blk b5 (MsgQ.enc { m with src := R.id, term := R.term }) 78 :: rowE m.ents :: stepB b R out u) ?_
    repeat (first | refine St.imp ?_ | (refine st_seq ?_; intro K hK) | refine st_t ?_ | refine st_f ?_ | refine st_miss ?_)
    refine a_mixC [] [0, 1, 2, 3, 4, 5, 6, 7, 8, 9, 10] [blkR b R [out.v] u, .blk b5 (MsgQ.enc { m with src := R.id, term := R.term }) 78] ?_
    refine m_val rfl ?_ v_move
    refine m_val rfl ?_ v_move
    (first | refine m_val rfl ?_ v_nilCheck | refine m_val rfl ?_ v_nilCheckF)
    (first | refine m_val rfl ?_ v_field | refine m_val rfl ?_ v_fieldE | refine m_val rfl ?_ v_field0)
    (first | refine m_val rfl ?_ v_load | refine m_val rfl ?_ v_loadA | refine m_val rfl ?_ (v_loadE hx) | refine m_val rfl ?_ (v_loadE0 hx) | refine m_val rfl ?_ (v_loadEA hx) | refine m_val rfl ?_ (v_loadEA0 hx))
    refine m_val rfl ?_ (v_loadA (vs := MsgQ.enc { m with src := R.id, term := R.term }))
    (first | (refine m_eff rfl ?_ e_buildSlice1; rintro _ _ ⟨bz, rfl, rfl⟩; refine m_go ?_) | (refine m_eff rfl ?_ e_buildSlice0; rintro _ _ ⟨bz, rfl, rfl⟩; refine m_go ?_) | (refine m_eff rfl ?_ e_buildSliceN; rintro _ _ ⟨bz, rfl, rfl⟩; refine m_go ?_))
    (refine m_eff rfl ?_ (e_appendM (α := MsgQ) { m with src := R.id, term := R.term }); rintro _ _ ⟨Ax, cx, rfl, rfl⟩; refine m_go ?_)
    (first | refine m_val rfl ?_ v_nilCheck | refine m_val rfl ?_ v_nilCheckF)
    (first | refine m_val rfl ?_ v_field | refine m_val rfl ?_ v_fieldE | refine m_val rfl ?_ v_field0)
    (first | (refine m_effn rfl ?_ e_store; rintro _ _ rfl; refine m_go ?_) | (refine m_effn rfl ?_ e_storeW; rintro _ _ rfl; refine m_go ?_) | (refine m_effn rfl ?_ e_storeA; rintro _ _ rfl; refine m_go ?_) | (refine m_effn rfl ?_ (e_storeE hx); rintro _ _ rfl; refine m_go ?_) | (refine m_effn rfl ?_ (e_storeE0 hx); rintro _ _ rfl; refine m_go ?_))
    repeat (first | refine St.imp ?_ | (refine st_seq ?_; intro K hK) | refine st_t ?_ | refine st_f ?_ | refine st_miss ?_)
    (first | refine a_val ?_ v_add | refine a_val ?_ v_cat)
    refine a_val ?_ v_move
    repeat (first | refine St.imp ?_ | (refine st_seq ?_; intro K hK) | refine st_t ?_ | refine st_f ?_ | refine st_miss ?_)
    have h := hKL ⟨out.l ++ [{ m with src := R.id, term := R.term }], Ax, cx⟩ (by omega) (fun _ => rfl)
    simp only [Int.zero_add, Int.reduceEq, if_false] at h
    refine tk_ent (Bs := stepB b R ⟨out.l ++ [{ m with src := R.id, term := R.term }], Ax, cx⟩ u) (.mk fun w hw => ?_) (a_weak h)
    have h2 := hw.pick (Bs := rowE m.ents :: entsA out.l :: [rowM ⟨out.l ++ [{ m with src := R.id, term := R.term }], Ax, cx⟩, blkR b R [.slice Ax (out.l ++ [{ m with src := R.id, term := R.term }]).length cx] u]) PickC.h
    have h3 := h2.many_snoc
    have e3 : out.l.map (fun m : MsgQ => rowE m.ents) ++ [rowE m.ents] = (out.l ++ [{ m with src := R.id, term := R.term }]).map (fun m : MsgQ => rowE m.ents) := by simp
    rw [e3] at h3
    exact h3.pick PickC.h
  · have hj : j = 1 := by simp at hc; omega
    subst hj
    simp only [Int.reduceEq, if_false]
    repeat (first | refine St.imp ?_ | (refine st_seq ?_; intro K hK) | refine st_t ?_ | refine st_f ?_ | refine st_miss ?_)
    first | refine a_ret Try.results34 ?_ | refine a_end Try.results34 ?_
    exact ⟨rfl, s, hs (by omega), rfl⟩
end Go.Proofs.Ytaclpbkbjmbceaa

/-
  RAFT: a new state.
-/
import Derived.Test.YtaclpbkbjmbceaaRu
set_option linter.unusedVariables false
set_option linter.unusedSimpArgs false
set_option maxRecDepth 100000
set_option maxHeartbeats 4000000
namespace Go.Proofs.Ytaclpbkbjmbceaa
open Go.Eng
abbrev newQ0 (id nodes seed : Int) : RaftQ := ⟨id, nodes, 0, 0, 0, 0, ⟨0, 0, nilE⟩, noB, 0, 0, 0, seed, nilI, nilI, nilI, nilI, 0, nilR, noB, 0⟩
abbrev newQ (id nodes seed : Int) : RaftQ := ⟨id, nodes, 0, 0, 0, 0, ⟨0, 0, nilE⟩, noB, 0, 0, 10 + (nextU seed).tmod 10, nextU seed, nilI, nilI, nilI, nilI, 0, nilR, noB, 0⟩
abbrev newOK (id nodes : Int) : Prop := 1 ≤ nodes ∧ nodes ≤ 7 ∧ 1 ≤ id ∧ id ≤ nodes
theorem new_m (id nodes seed : Int) (w : World) : Meets Try.prog 5 [.int .i64 id, .int .i64 nodes, .int .u64 seed] w (fpAll []) (fun v As => (¬ newOK id nodes ∧ v = .tuple #[.agg zeroR.toArray, .int .i64 1] ∧ As = []) ∨ (newOK id nodes ∧ v = .tuple #[.agg (newQ id nodes seed).enc.toArray, .int .i64 0] ∧ As = [])) := by
  refine enter tysOK Try.func5 rfl Try.ntmps5 rfl (HeapOK.start w) ?_
  repeat (first | refine St.imp ?_ | (refine st_seq ?_; intro K hK) | refine st_t ?_ | refine st_f ?_ | refine st_miss ?_)
  (refine a_eff ?_ (e_alloc); rintro _ _ ⟨bz, rfl, rfl⟩)
  refine a_val ?_ v_assign
  repeat (first | refine St.imp ?_ | (refine st_seq ?_; intro K hK) | refine st_t ?_ | refine st_f ?_ | refine st_miss ?_)
  refine a_val ?_ v_move
  refine a_val ?_ v_lss
  refine a_val ?_ v_move
  refine a_case (fun hg3 => ?_) (fun hg3 => ?_)
  · repeat (first | refine a_skip ?_ | refine a_skipn ?_ | refine a_val ?_ v_pickt | refine a_val ?_ v_pickf | refine a_val ?_ v_move | refine a_val ?_ v_assign | refine St.imp ?_ | refine st_t ?_ | refine st_f ?_ | refine st_miss ?_ | (refine st_seq ?_; intro K hK))
    try simp only [Bool.not_eq_true', Bool.not_eq_false', decide_eq_true_eq, decide_eq_false_iff_not, ne_eq, Decidable.not_not] at hg3
    repeat (first | refine St.imp ?_ | (refine st_seq ?_; intro K hK) | refine st_t ?_ | refine st_f ?_ | refine st_miss ?_)
    refine a_val ?_ (v_build (vs := zeroR))
    (first | (refine a_effn ?_ e_store; rintro _ _ rfl) | (refine a_effn ?_ e_storeW; rintro _ _ rfl) | (refine a_effn ?_ e_storeA; rintro _ _ rfl))
    refine a_val ?_ v_assign
    repeat (first | refine St.imp ?_ | (refine st_seq ?_; intro K hK) | refine st_t ?_ | refine st_f ?_ | refine st_miss ?_)
    first | refine a_retP ([] : List Atom) Try.results5 ?_ | refine a_endP ([] : List Atom) Try.results5 ?_
    exact .inl ⟨by omega, rfl, rfl⟩
  (first | refine a_val ?_ v_move | refine a_skip ?_)
  (first | refine a_val ?_ v_gtr | refine a_skip ?_)
  (first | refine a_val ?_ v_pickt | refine a_val ?_ v_pickf)
  refine a_val ?_ v_move
  refine a_case (fun hg7 => ?_) (fun hg7 => ?_)
  · repeat (first | refine a_skip ?_ | refine a_skipn ?_ | refine a_val ?_ v_pickt | refine a_val ?_ v_pickf | refine a_val ?_ v_move | refine a_val ?_ v_assign | refine St.imp ?_ | refine st_t ?_ | refine st_f ?_ | refine st_miss ?_ | (refine st_seq ?_; intro K hK))
    try simp only [Bool.not_eq_true', Bool.not_eq_false', decide_eq_true_eq, decide_eq_false_iff_not, ne_eq, Decidable.not_not] at hg3 hg7
    repeat (first | refine St.imp ?_ | (refine st_seq ?_; intro K hK) | refine st_t ?_ | refine st_f ?_ | refine st_miss ?_)
    refine a_val ?_ (v_build (vs := zeroR))
    (first | (refine a_effn ?_ e_store; rintro _ _ rfl) | (refine a_effn ?_ e_storeW; rintro _ _ rfl) | (refine a_effn ?_ e_storeA; rintro _ _ rfl))
    refine a_val ?_ v_assign
    repeat (first | refine St.imp ?_ | (refine st_seq ?_; intro K hK) | refine st_t ?_ | refine st_f ?_ | refine st_miss ?_)
    first | refine a_retP ([] : List Atom) Try.results5 ?_ | refine a_endP ([] : List Atom) Try.results5 ?_
    exact .inl ⟨by omega, rfl, rfl⟩
  (first | refine a_val ?_ v_move | refine a_skip ?_)
  (first | refine a_val ?_ v_lss | refine a_skip ?_)
  (first | refine a_val ?_ v_pickt | refine a_val ?_ v_pickf)
  refine a_val ?_ v_move
  refine a_case (fun hg11 => ?_) (fun hg11 => ?_)
  · repeat (first | refine a_skip ?_ | refine a_skipn ?_ | refine a_val ?_ v_pickt | refine a_val ?_ v_pickf | refine a_val ?_ v_move | refine a_val ?_ v_assign | refine St.imp ?_ | refine st_t ?_ | refine st_f ?_ | refine st_miss ?_ | (refine st_seq ?_; intro K hK))
    try simp only [Bool.not_eq_true', Bool.not_eq_false', decide_eq_true_eq, decide_eq_false_iff_not, ne_eq, Decidable.not_not] at hg3 hg7 hg11
    repeat (first | refine St.imp ?_ | (refine st_seq ?_; intro K hK) | refine st_t ?_ | refine st_f ?_ | refine st_miss ?_)
    refine a_val ?_ (v_build (vs := zeroR))
    (first | (refine a_effn ?_ e_store; rintro _ _ rfl) | (refine a_effn ?_ e_storeW; rintro _ _ rfl) | (refine a_effn ?_ e_storeA; rintro _ _ rfl))
    refine a_val ?_ v_assign
    repeat (first | refine St.imp ?_ | (refine st_seq ?_; intro K hK) | refine st_t ?_ | refine st_f ?_ | refine st_miss ?_)
    first | refine a_retP ([] : List Atom) Try.results5 ?_ | refine a_endP ([] : List Atom) Try.results5 ?_
    exact .inl ⟨by omega, rfl, rfl⟩
  (first | refine a_val ?_ v_move | refine a_skip ?_)
  (first | refine a_val ?_ v_move | refine a_skip ?_)
  (first | refine a_val ?_ v_gtr | refine a_skip ?_)
  (first | refine a_val ?_ v_pickt | refine a_val ?_ v_pickf)
  repeat (first | refine St.imp ?_ | (refine st_seq ?_; intro K hK) | refine st_t ?_ | refine st_f ?_ | refine st_miss ?_)
  try simp only [Bool.not_eq_true', Bool.not_eq_false', decide_eq_true_eq, decide_eq_false_iff_not, ne_eq, Decidable.not_not] at hg3 hg7 hg11
  refine a_cond (fun hc => ?_) (fun hc => ?_)
  · have hc := of_decide_eq_true hc
    repeat (first | refine St.imp ?_ | (refine st_seq ?_; intro K hK) | refine st_t ?_ | refine st_f ?_ | refine st_miss ?_)
    refine a_val ?_ (v_build (vs := zeroR))
    (first | (refine a_effn ?_ e_store; rintro _ _ rfl) | (refine a_effn ?_ e_storeW; rintro _ _ rfl) | (refine a_effn ?_ e_storeA; rintro _ _ rfl))
    refine a_val ?_ v_assign
    repeat (first | refine St.imp ?_ | (refine st_seq ?_; intro K hK) | refine st_t ?_ | refine st_f ?_ | refine st_miss ?_)
    first | refine a_retP ([] : List Atom) Try.results5 ?_ | refine a_endP ([] : List Atom) Try.results5 ?_
    exact .inl ⟨by omega, rfl, rfl⟩
  have hc := of_decide_eq_false hc
  repeat (first | refine St.imp ?_ | (refine st_seq ?_; intro K hK) | refine st_t ?_ | refine st_f ?_ | refine st_miss ?_)
  repeat (first | refine St.imp ?_ | (refine st_seq ?_; intro K hK) | refine st_t ?_ | refine st_f ?_ | refine st_miss ?_)
  refine a_val ?_ v_move
  refine a_val ?_ v_move
  refine a_val ?_ v_move
  refine a_val ?_ (v_build (vs := (newQ0 id nodes seed).enc))
  refine a_val ?_ ((v_build (vs := (newQ0 id nodes seed).enc ++ []) (hf := fill_head (s := 22) (z := zeroR) (z2 := []) rfl rfl)))
  (refine a_eff ?_ ((e_box (cs := (newQ0 id nodes seed).enc ++ []) (hc := rfl))); rintro _ _ ⟨b, rfl, rfl⟩)
  refine a_val ?_ v_assign
  repeat (first | refine St.imp ?_ | (refine st_seq ?_; intro K hK) | refine st_t ?_ | refine st_f ?_ | refine st_miss ?_)
  refine a_castL (Cs := [blkR b (newQ0 id nodes seed) [] 47, .blk bz zeroR 32]) ?_ rfl
  repeat (first | refine St.imp ?_ | (refine st_seq ?_; intro K hK) | refine st_t ?_ | refine st_f ?_ | refine st_miss ?_)
  refine a_val ?_ v_move
  (refine a_eff ?_ (e_callO [blkR b (newQ0 id nodes seed) [] 47] rfl rfl fun w hw hb => draw_m b (newQ0 id nodes seed) [] 47 w hb); rintro _ _ ⟨_, ⟨rfl, rfl⟩, rfl⟩; simp only [List.cons_append, List.nil_append])
  repeat (first | refine St.imp ?_ | (refine st_seq ?_; intro K hK) | refine st_t ?_ | refine st_f ?_ | refine st_miss ?_)
  refine a_val ?_ v_move
  (first | refine a_val ?_ v_nilCheck | refine a_val ?_ v_nilCheckF)
  (first | refine a_val ?_ v_field | refine a_val ?_ v_fieldE | refine a_val ?_ v_field0)
  refine a_val ?_ (v_loadA (vs := (newQ id nodes seed).enc))
  (refine a_effn ?_ ((e_storeW (vs := (newQ id nodes seed).enc))); rintro _ _ rfl)
  refine a_val ?_ v_assign
  repeat (first | refine St.imp ?_ | (refine st_seq ?_; intro K hK) | refine st_t ?_ | refine st_f ?_ | refine st_miss ?_)
  first | refine a_retP ([] : List Atom) Try.results5 ?_ | refine a_endP ([] : List Atom) Try.results5 ?_
  exact .inr ⟨by omega, rfl, rfl⟩
theorem nextRef_m (s : Int) (w : World) : Meets Try.prog 15 [.int .u64 s] w (fpAll []) (fun v _ => v = .int .u64 (nextU s)) := by
  refine enter tysOK Try.func15 rfl Try.ntmps15 rfl (HeapOK.start w) ?_
  repeat (first | refine St.imp ?_ | (refine st_seq ?_; intro K hK) | refine st_t ?_ | refine st_f ?_ | refine st_miss ?_)
  refine a_val ?_ v_assign
  repeat (first | refine St.imp ?_ | (refine st_seq ?_; intro K hK) | refine st_t ?_ | refine st_f ?_ | refine st_miss ?_)
  refine a_val ?_ v_move
  (first | refine a_val ?_ v_eql | refine a_val ?_ v_seql | refine a_val ?_ v_beql | refine a_val ?_ v_isNil)
  repeat (first | refine St.imp ?_ | (refine st_seq ?_; intro K hK) | refine st_t ?_ | refine st_f ?_ | refine st_miss ?_)
  refine a_cond (fun hc => ?_) (fun hc => ?_)
  · have : s = 0 := by simpa using hc
    subst this
    repeat (first | refine St.imp ?_ | (refine st_seq ?_; intro K hK) | refine st_t ?_ | refine st_f ?_ | refine st_miss ?_)
    refine a_val ?_ v_assign
    repeat (first | refine St.imp ?_ | (refine st_seq ?_; intro K hK) | refine st_t ?_ | refine st_f ?_ | refine st_miss ?_)
    refine a_val ?_ v_move
    refine a_val ?_ v_move
    refine a_val ?_ v_shl
    refine a_val ?_ v_xor
    refine a_val ?_ v_assign
    repeat (first | refine St.imp ?_ | (refine st_seq ?_; intro K hK) | refine st_t ?_ | refine st_f ?_ | refine st_miss ?_)
    refine a_val ?_ v_move
    refine a_val ?_ v_move
    refine a_val ?_ v_shr
    refine a_val ?_ v_xor
    refine a_val ?_ v_assign
    repeat (first | refine St.imp ?_ | (refine st_seq ?_; intro K hK) | refine st_t ?_ | refine st_f ?_ | refine st_miss ?_)
    refine a_val ?_ v_move
    refine a_val ?_ v_move
    refine a_val ?_ v_shl
    refine a_val ?_ v_xor
    refine a_val ?_ v_assign
    repeat (first | refine St.imp ?_ | (refine st_seq ?_; intro K hK) | refine st_t ?_ | refine st_f ?_ | refine st_miss ?_)
    first | refine a_ret Try.results15 ?_ | refine a_end Try.results15 ?_
    rfl
  · have : ¬ s = 0 := by simpa using hc
    repeat (first | refine St.imp ?_ | (refine st_seq ?_; intro K hK) | refine st_t ?_ | refine st_f ?_ | refine st_miss ?_)
    repeat (first | refine St.imp ?_ | (refine st_seq ?_; intro K hK) | refine st_t ?_ | refine st_f ?_ | refine st_miss ?_)
    refine a_val ?_ v_move
    refine a_val ?_ v_move
    refine a_val ?_ v_shl
    refine a_val ?_ v_xor
    refine a_val ?_ v_assign
    repeat (first | refine St.imp ?_ | (refine st_seq ?_; intro K hK) | refine st_t ?_ | refine st_f ?_ | refine st_miss ?_)
    refine a_val ?_ v_move
    refine a_val ?_ v_move
    refine a_val ?_ v_shr
    refine a_val ?_ v_xor
    refine a_val ?_ v_assign
    repeat (first | refine St.imp ?_ | (refine st_seq ?_; intro K hK) | refine st_t ?_ | refine st_f ?_ | refine st_miss ?_)
    refine a_val ?_ v_move
    refine a_val ?_ v_move
    refine a_val ?_ v_shl
    refine a_val ?_ v_xor
    refine a_val ?_ v_assign
    repeat (first | refine St.imp ?_ | (refine st_seq ?_; intro K hK) | refine st_t ?_ | refine st_f ?_ | refine st_miss ?_)
    first | refine a_ret Try.results15 ?_ | refine a_end Try.results15 ?_
    simp only [nextU, if_neg this]
theorem draws_m (b : Nat) (R : RaftQ) (tl : List Value) (u : TypeId) (w : World) (hb : HeapOK w (fpAll [blkR b R tl u]) [blkR b R tl u] w) : Meets Try.prog 9 [ptrB b] w (fpAll [blkR b R tl u]) (fun v As => v = .tuple #[] ∧ As = [blkR b { R with seed := nextU R.seed, timeout := 10 + (nextU R.seed).tmod 10, elapsed := 0 } tl u]) := by
  have ht := tmod10 _ (nextU_nn R.seed)
  refine enter tysOK Try.func9 rfl Try.ntmps9 rfl (hb) ?_
  repeat (first | refine St.imp ?_ | (refine st_seq ?_; intro K hK) | refine st_t ?_ | refine st_f ?_ | refine st_miss ?_)
  refine a_val ?_ v_move
  refine a_val ?_ v_move
  (first | refine a_val ?_ v_nilCheck | refine a_val ?_ v_nilCheckF)
  (first | refine a_val ?_ v_field | refine a_val ?_ v_fieldE | refine a_val ?_ v_field0)
  (first | refine a_val ?_ v_field | refine a_val ?_ v_fieldE | refine a_val ?_ v_field0)
  (first | refine a_val ?_ v_load | refine a_val ?_ v_loadA)
  (refine a_eff ?_ (e_callP rfl rfl fun w hw => nextRef_m _ w); rintro _ _ ⟨rfl, rfl⟩)
  (first | refine a_val ?_ v_nilCheck | refine a_val ?_ v_nilCheckF)
  (first | refine a_val ?_ v_field | refine a_val ?_ v_fieldE | refine a_val ?_ v_field0)
  (first | refine a_val ?_ v_field | refine a_val ?_ v_fieldE | refine a_val ?_ v_field0)
  (first | (refine a_effn ?_ e_store; rintro _ _ rfl) | (refine a_effn ?_ e_storeW; rintro _ _ rfl) | (refine a_effn ?_ e_storeA; rintro _ _ rfl))
  repeat (first | refine St.imp ?_ | (refine st_seq ?_; intro K hK) | refine st_t ?_ | refine st_f ?_ | refine st_miss ?_)
  refine a_val ?_ v_move
  refine a_val ?_ v_move
  (first | refine a_val ?_ v_nilCheck | refine a_val ?_ v_nilCheckF)
  (first | refine a_val ?_ v_field | refine a_val ?_ v_fieldE | refine a_val ?_ v_field0)
  (first | refine a_val ?_ v_field | refine a_val ?_ v_fieldE | refine a_val ?_ v_field0)
  (first | refine a_val ?_ v_load | refine a_val ?_ v_loadA)
  refine a_val ?_ v_rem
  refine a_val ?_ v_convert
  have e1 : IntKind.i64.wrap ((nextU R.seed).tmod 10) = (nextU R.seed).tmod 10 := by rw [IntKind.wrap_i64]; omega
  rw [e1]
  (first | refine a_val ?_ v_add | refine a_val ?_ v_cat)
  (first | refine a_val ?_ v_nilCheck | refine a_val ?_ v_nilCheckF)
  (first | refine a_val ?_ v_field | refine a_val ?_ v_fieldE | refine a_val ?_ v_field0)
  (first | refine a_val ?_ v_field | refine a_val ?_ v_fieldE | refine a_val ?_ v_field0)
  (first | (refine a_effn ?_ e_store; rintro _ _ rfl) | (refine a_effn ?_ e_storeW; rintro _ _ rfl) | (refine a_effn ?_ e_storeA; rintro _ _ rfl))
  repeat (first | refine St.imp ?_ | (refine st_seq ?_; intro K hK) | refine st_t ?_ | refine st_f ?_ | refine st_miss ?_)
  refine a_val ?_ v_move
  (first | refine a_val ?_ v_nilCheck | refine a_val ?_ v_nilCheckF)
  (first | refine a_val ?_ v_field | refine a_val ?_ v_fieldE | refine a_val ?_ v_field0)
  (first | refine a_val ?_ v_field | refine a_val ?_ v_fieldE | refine a_val ?_ v_field0)
  (first | (refine a_effn ?_ e_store; rintro _ _ rfl) | (refine a_effn ?_ e_storeW; rintro _ _ rfl) | (refine a_effn ?_ e_storeA; rintro _ _ rfl))
  repeat (first | refine St.imp ?_ | (refine st_seq ?_; intro K hK) | refine st_t ?_ | refine st_f ?_ | refine st_miss ?_)
  first | refine a_ret Try.results9 ?_ | refine a_end Try.results9 ?_
  exact ⟨rfl, rfl⟩
end Go.Proofs.Ytaclpbkbjmbceaa

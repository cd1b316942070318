/-
  RAFT: a state of one's own.
-/
import Derived.Test.YtaclpbkbjmbceaaRm
set_option linter.unusedVariables false
set_option linter.unusedSimpArgs false
set_option maxRecDepth 100000
set_option maxHeartbeats 4000000
namespace Go.Proofs.Ytaclpbkbjmbceaa
open Go.Eng
structure SmallQ (R : RaftQ) : Prop where
  log : R.log.ents.l.length ≤ 100000
  votes : R.votes.l.length ≤ 100000
  next : R.next.l.length ≤ 100000
  mtch : R.mtch.l.length ≤ 100000
  sent : R.sent.l.length ≤ 100000
  reads : R.reads.l.length ≤ 100000
  acks : ∀ x ∈ R.reads.l, x.acks.l.length ≤ 100000
abbrev ownC (R : RaftQ) (x : At Ent) (v1 v2 v3 v4 : At Int) (y : At ReadQ) : List Value := [.int .i64 R.id, .int .i64 R.nodes, .int .i64 R.role, .int .i64 R.term, .int .i64 R.vote, .int .i64 R.leader, .int .i64 R.log.base, .int .i64 R.log.baseTerm, x.v, .string R.snap, .int .i64 R.commit, .int .i64 R.elapsed, .int .i64 R.timeout, .int .u64 R.seed, v1.v, v2.v, v3.v, v4.v, .int .i64 R.round, y.v, .string R.part, .int .i64 R.partOf]
abbrev zeroR : List Value := ty32.zero
theorem set_self {α : Type} {l : List α} {n : Nat} {x : α} (h : l[n]? = some x) : l.set n x = l := by
  apply List.ext_getElem?
  intro j
  by_cases hj : n = j
  · subst hj
    have hlt : n < l.length := (List.getElem?_eq_some_iff.1 h).1
    rw [List.getElem?_set_self hlt, h]
  · rw [List.getElem?_set_ne hj]
theorem own_m (R : RaftQ) (w : World) [hR : RaftAt w (fpAll []) R] (hs : SmallQ R) : Meets Try.prog 30 [.agg R.enc.toArray] w (fpAll []) (fun v As => ∃ R' : RaftQ, R'.p = R.p ∧ v = .agg R'.enc.toArray ∧ As = R'.rows) := by
  simp only [RaftQ.enc]
  refine enter tysOK Try.func30 rfl Try.ntmps30 rfl (HeapOK.start w) ?_
  repeat (first | refine St.imp ?_ | (refine st_seq ?_; intro K hK) | refine st_t ?_ | refine st_f ?_ | refine st_miss ?_)
  (refine a_eff ?_ (e_box); rintro _ _ ⟨b1, rfl, rfl⟩)
  (refine a_eff ?_ (e_alloc); rintro _ _ ⟨b2, rfl, rfl⟩)
  repeat (first | refine St.imp ?_ | (refine st_seq ?_; intro K hK) | refine st_t ?_ | refine st_f ?_ | refine st_miss ?_)
  (first | refine a_val ?_ v_field | refine a_val ?_ v_fieldE | refine a_val ?_ v_field0)
  refine a_val ?_ (v_loadA (vs := R.log.enc))
  (refine a_eff ?_ (e_callN rfl rfl fun w hw => ownLog_m R.log w hs.log); rintro _ _ ⟨_, ⟨x, hx, rfl, rfl⟩, rfl⟩; simp only [List.cons_append, List.nil_append])
  (first | refine a_val ?_ v_field | refine a_val ?_ v_fieldE | refine a_val ?_ v_field0)
  simp only [LogQ.enc]
  (first | (refine a_effn ?_ e_store; rintro _ _ rfl) | (refine a_effn ?_ e_storeW; rintro _ _ rfl) | (refine a_effn ?_ e_storeA; rintro _ _ rfl))
  repeat (first | refine St.imp ?_ | (refine st_seq ?_; intro K hK) | refine st_t ?_ | refine st_f ?_ | refine st_miss ?_)
  (first | refine a_val ?_ v_field | refine a_val ?_ v_fieldE | refine a_val ?_ v_field0)
  (first | refine a_val ?_ v_field | refine a_val ?_ v_fieldE | refine a_val ?_ v_field0)
  (first | refine a_val ?_ v_field | refine a_val ?_ v_fieldE | refine a_val ?_ v_field0)
  (first | refine a_val ?_ v_field | refine a_val ?_ v_fieldE | refine a_val ?_ v_field0)
  (refine a_eff ?_ (e_buildSliceN); rintro _ _ ⟨g4, rfl, rfl⟩)
  (first | refine a_val ?_ v_len | refine a_val ?_ v_lenS)
  refine a_val ?_ v_move
  repeat (first | refine St.imp ?_ | (refine st_seq ?_; intro K hK) | refine st_t ?_ | refine st_f ?_ | refine st_miss ?_)
  refine a_rounds 4 ?_
  repeat (first | refine St.imp ?_ | (refine st_seq ?_; intro K hK) | refine st_t ?_ | refine st_f ?_ | refine st_miss ?_)
  refine a_val ?_ v_lss
  repeat (first | refine St.imp ?_ | (refine st_seq ?_; intro K hK) | refine st_t ?_ | refine st_f ?_ | refine st_miss ?_)
  refine a_val ?_ (v_indexB)
  (first | refine a_val ?_ v_load | refine a_val ?_ v_loadA)
  refine a_val ?_ v_assign
  repeat (first | refine St.imp ?_ | (refine st_seq ?_; intro K hK) | refine st_t ?_ | refine st_f ?_ | refine st_miss ?_)
  refine a_val ?_ v_move
  refine a_val ?_ v_move
  (first | refine a_val ?_ v_nilCheck | refine a_val ?_ v_nilCheckF)
  (first | refine a_val ?_ v_load | refine a_val ?_ v_loadA)
  (refine a_eff ?_ (e_callN rfl rfl fun w hw => cloneI_m R.votes.l R.votes.a R.votes.c w hs.votes); rintro _ _ ⟨_, ⟨v1, hv1, rfl, rfl⟩, rfl⟩; simp only [List.cons_append, List.nil_append])
  (first | refine a_val ?_ v_nilCheck | refine a_val ?_ v_nilCheckF)
  (first | (refine a_effn ?_ e_store; rintro _ _ rfl) | (refine a_effn ?_ e_storeW; rintro _ _ rfl) | (refine a_effn ?_ e_storeA; rintro _ _ rfl))
  repeat (first | refine St.imp ?_ | (refine st_seq ?_; intro K hK) | refine st_t ?_ | refine st_f ?_ | refine st_miss ?_)
  (first | refine a_val ?_ v_add | refine a_val ?_ v_cat)
  refine a_val ?_ v_move
  repeat (first | refine St.imp ?_ | (refine st_seq ?_; intro K hK) | refine st_t ?_ | refine st_f ?_ | refine st_miss ?_)
  refine a_round ?_
  repeat (first | refine St.imp ?_ | (refine st_seq ?_; intro K hK) | refine st_t ?_ | refine st_f ?_ | refine st_miss ?_)
  refine a_val ?_ v_lss
  repeat (first | refine St.imp ?_ | (refine st_seq ?_; intro K hK) | refine st_t ?_ | refine st_f ?_ | refine st_miss ?_)
  refine a_val ?_ (v_indexB)
  (first | refine a_val ?_ v_load | refine a_val ?_ v_loadA)
  refine a_val ?_ v_assign
  repeat (first | refine St.imp ?_ | (refine st_seq ?_; intro K hK) | refine st_t ?_ | refine st_f ?_ | refine st_miss ?_)
  refine a_val ?_ v_move
  refine a_val ?_ v_move
  (first | refine a_val ?_ v_nilCheck | refine a_val ?_ v_nilCheckF)
  (first | refine a_val ?_ v_load | refine a_val ?_ v_loadA)
  (refine a_eff ?_ (e_callN rfl rfl fun w hw => cloneI_m R.next.l R.next.a R.next.c w hs.next); rintro _ _ ⟨_, ⟨v2, hv2, rfl, rfl⟩, rfl⟩; simp only [List.cons_append, List.nil_append])
  (first | refine a_val ?_ v_nilCheck | refine a_val ?_ v_nilCheckF)
  (first | (refine a_effn ?_ e_store; rintro _ _ rfl) | (refine a_effn ?_ e_storeW; rintro _ _ rfl) | (refine a_effn ?_ e_storeA; rintro _ _ rfl))
  repeat (first | refine St.imp ?_ | (refine st_seq ?_; intro K hK) | refine st_t ?_ | refine st_f ?_ | refine st_miss ?_)
  (first | refine a_val ?_ v_add | refine a_val ?_ v_cat)
  refine a_val ?_ v_move
  repeat (first | refine St.imp ?_ | (refine st_seq ?_; intro K hK) | refine st_t ?_ | refine st_f ?_ | refine st_miss ?_)
  refine a_round ?_
  repeat (first | refine St.imp ?_ | (refine st_seq ?_; intro K hK) | refine st_t ?_ | refine st_f ?_ | refine st_miss ?_)
  refine a_val ?_ v_lss
  repeat (first | refine St.imp ?_ | (refine st_seq ?_; intro K hK) | refine st_t ?_ | refine st_f ?_ | refine st_miss ?_)
  refine a_val ?_ (v_indexB)
  (first | refine a_val ?_ v_load | refine a_val ?_ v_loadA)
  refine a_val ?_ v_assign
  repeat (first | refine St.imp ?_ | (refine st_seq ?_; intro K hK) | refine st_t ?_ | refine st_f ?_ | refine st_miss ?_)
  refine a_val ?_ v_move
  refine a_val ?_ v_move
  (first | refine a_val ?_ v_nilCheck | refine a_val ?_ v_nilCheckF)
  (first | refine a_val ?_ v_load | refine a_val ?_ v_loadA)
  (refine a_eff ?_ (e_callN rfl rfl fun w hw => cloneI_m R.mtch.l R.mtch.a R.mtch.c w hs.mtch); rintro _ _ ⟨_, ⟨v3, hv3, rfl, rfl⟩, rfl⟩; simp only [List.cons_append, List.nil_append])
  (first | refine a_val ?_ v_nilCheck | refine a_val ?_ v_nilCheckF)
  (first | (refine a_effn ?_ e_store; rintro _ _ rfl) | (refine a_effn ?_ e_storeW; rintro _ _ rfl) | (refine a_effn ?_ e_storeA; rintro _ _ rfl))
  repeat (first | refine St.imp ?_ | (refine st_seq ?_; intro K hK) | refine st_t ?_ | refine st_f ?_ | refine st_miss ?_)
  (first | refine a_val ?_ v_add | refine a_val ?_ v_cat)
  refine a_val ?_ v_move
  repeat (first | refine St.imp ?_ | (refine st_seq ?_; intro K hK) | refine st_t ?_ | refine st_f ?_ | refine st_miss ?_)
  refine a_round ?_
  repeat (first | refine St.imp ?_ | (refine st_seq ?_; intro K hK) | refine st_t ?_ | refine st_f ?_ | refine st_miss ?_)
  refine a_val ?_ v_lss
  repeat (first | refine St.imp ?_ | (refine st_seq ?_; intro K hK) | refine st_t ?_ | refine st_f ?_ | refine st_miss ?_)
  refine a_val ?_ (v_indexB)
  (first | refine a_val ?_ v_load | refine a_val ?_ v_loadA)
  refine a_val ?_ v_assign
  repeat (first | refine St.imp ?_ | (refine st_seq ?_; intro K hK) | refine st_t ?_ | refine st_f ?_ | refine st_miss ?_)
  refine a_val ?_ v_move
  refine a_val ?_ v_move
  (first | refine a_val ?_ v_nilCheck | refine a_val ?_ v_nilCheckF)
  (first | refine a_val ?_ v_load | refine a_val ?_ v_loadA)
  (refine a_eff ?_ (e_callN rfl rfl fun w hw => cloneI_m R.sent.l R.sent.a R.sent.c w hs.sent); rintro _ _ ⟨_, ⟨v4, hv4, rfl, rfl⟩, rfl⟩; simp only [List.cons_append, List.nil_append])
  (first | refine a_val ?_ v_nilCheck | refine a_val ?_ v_nilCheckF)
  (first | (refine a_effn ?_ e_store; rintro _ _ rfl) | (refine a_effn ?_ e_storeW; rintro _ _ rfl) | (refine a_effn ?_ e_storeA; rintro _ _ rfl))
  repeat (first | refine St.imp ?_ | (refine st_seq ?_; intro K hK) | refine st_t ?_ | refine st_f ?_ | refine st_miss ?_)
  (first | refine a_val ?_ v_add | refine a_val ?_ v_cat)
  refine a_val ?_ v_move
  repeat (first | refine St.imp ?_ | (refine st_seq ?_; intro K hK) | refine st_t ?_ | refine st_f ?_ | refine st_miss ?_)
  refine a_round ?_
  repeat (first | refine St.imp ?_ | (refine st_seq ?_; intro K hK) | refine st_t ?_ | refine st_f ?_ | refine st_miss ?_)
  refine a_val ?_ v_lss
  repeat (first | refine St.imp ?_ | (refine st_seq ?_; intro K hK) | refine st_t ?_ | refine st_f ?_ | refine st_miss ?_)
  (first | refine a_val ?_ v_field | refine a_val ?_ v_fieldE | refine a_val ?_ v_field0)
  (first | refine a_val ?_ v_load | refine a_val ?_ v_loadA)
  (refine a_eff ?_ (e_callN rfl rfl fun w hw => cloneR_m R.reads.l R.reads.a R.reads.c w hs.reads); rintro _ _ ⟨_, ⟨y, hy, rfl, rfl⟩, rfl⟩; simp only [List.cons_append, List.nil_append])
  (first | refine a_val ?_ v_field | refine a_val ?_ v_fieldE | refine a_val ?_ v_field0)
  (first | (refine a_effn ?_ e_store; rintro _ _ rfl) | (refine a_effn ?_ e_storeW; rintro _ _ rfl) | (refine a_effn ?_ e_storeA; rintro _ _ rfl))
  repeat (first | refine St.imp ?_ | (refine st_seq ?_; intro K hK) | refine st_t ?_ | refine st_f ?_ | refine st_miss ?_)
  (first | refine a_val ?_ v_field | refine a_val ?_ v_fieldE | refine a_val ?_ v_field0)
  (first | refine a_val ?_ v_load | refine a_val ?_ v_loadA)
  (first | refine a_val ?_ v_len | refine a_val ?_ v_lenS)
  refine a_val ?_ v_move
  repeat (first | refine St.imp ?_ | (refine st_seq ?_; intro K hK) | refine st_t ?_ | refine st_f ?_ | refine st_miss ?_)
  have hyl : y.l.length ≤ 100000 := by rw [hy]; exact hs.reads
  refine a_loop (σ := Int × List ReadQ) (fun s => [(34, .int .i64 s.1), (33, .int .i64 y.l.length), (1, .pointer (some ⟨b1, 0, none⟩)), (2, .pointer (some ⟨b2, 0, none⟩))]) (fun s => [.blk b1 (ownC R x v1 v2 v3 v4 y) 32, .row (.slice y.a y.l.length y.c) 57 4 (s.2.map ReadQ.enc), acksA (s.2.take s.1.toNat), rowE x, rowI v1, rowI v2, rowI v3, rowI v4, .blk b2 zeroR 32]) (fun s => 0 ≤ s.1 ∧ s.1 ≤ y.l.length ∧ s.2.length = y.l.length ∧ s.2.map ReadQ.p = R.reads.l.map ReadQ.p ∧ ∀ j : Nat, s.1 ≤ j → s.2[j]? = R.reads.l[j]?) (fun s => (y.l.length - s.1).toNat) (0, y.l) ⟨by simp, by simp, rfl, by rw [hy], fun j _ => by rw [hy]⟩ ?_ (ha0 := ?ha0)
  case ha0 => exact Go.Eng.Ent.trans Go.Eng.Ent.many_nil (Go.Eng.Ent.trans (Bs := [.blk b1 (ownC R x v1 v2 v3 v4 y) 32, .row (.slice y.a y.l.length y.c) 57 4 (y.l.map ReadQ.enc), many [], rowE x, rowI v1, rowI v2, rowI v3, rowI v4, .blk b2 zeroR 32]) Go.Eng.Ent.pickC Go.Eng.Ent.refl)
  rintro ⟨i, l⟩ ⟨h0, h1, h2, h3, h4⟩ KL hKL
  simp only at h0 h1 h2 h3 h4
  repeat (first | refine St.imp ?_ | (refine st_seq ?_; intro K hK) | refine st_t ?_ | refine st_f ?_ | refine st_miss ?_)
  refine a_val ?_ v_lss
  repeat (first | refine St.imp ?_ | (refine st_seq ?_; intro K hK) | refine st_t ?_ | refine st_f ?_ | refine st_miss ?_)
  refine a_cond (fun hc => ?_) (fun hc => ?_)
  · have hlt : i < y.l.length := by simpa using hc
    repeat (first | refine St.imp ?_ | (refine st_seq ?_; intro K hK) | refine st_t ?_ | refine st_f ?_ | refine st_miss ?_)
    obtain ⟨z, hz⟩ := get_some (l := l) (j := i) h0 (by omega)
    have hzR : R.reads.l[i.toNat]? = some z := by rw [← h4 i.toNat (by omega)]; exact hz
    have hzm : z ∈ R.reads.l := List.mem_of_getElem? hzR
    haveI := hR.reads.acks z hzm
    repeat (first | refine St.imp ?_ | (refine st_seq ?_; intro K hK) | refine st_t ?_ | refine st_f ?_ | refine st_miss ?_)
    refine a_val ?_ v_move
    refine a_val ?_ v_assign
    repeat (first | refine St.imp ?_ | (refine st_seq ?_; intro K hK) | refine st_t ?_ | refine st_f ?_ | refine st_miss ?_)
    refine a_mix [0, 1, 2, 3, 4, 5, 6, 7, 8, 9, 10, 11, 12] ?_
    (first | refine m_val rfl ?_ v_field | refine m_val rfl ?_ v_fieldE | refine m_val rfl ?_ v_field0)
    (first | refine m_val rfl ?_ v_load | refine m_val rfl ?_ v_loadA | refine m_val rfl ?_ (v_loadE hz) | refine m_val rfl ?_ (v_loadE0 hz) | refine m_val rfl ?_ (v_loadEA hz) | refine m_val rfl ?_ (v_loadEA0 hz))
    refine m_val rfl ?_ v_move
    (first | refine m_val rfl ?_ v_field | refine m_val rfl ?_ v_fieldE | refine m_val rfl ?_ v_field0)
    (first | refine m_val rfl ?_ v_load | refine m_val rfl ?_ v_loadA | refine m_val rfl ?_ (v_loadE hz) | refine m_val rfl ?_ (v_loadE0 hz) | refine m_val rfl ?_ (v_loadEA hz) | refine m_val rfl ?_ (v_loadEA0 hz))
    refine m_val rfl ?_ v_move
    refine m_val rfl ?_ ((v_index (xs := l.map ReadQ.enc) (hn := by rw [List.length_map]; exact h2)))
    (first | refine m_val rfl ?_ v_field | refine m_val rfl ?_ v_fieldE | refine m_val rfl ?_ v_field0)
    (first | refine m_val rfl ?_ v_load | refine m_val rfl ?_ v_loadA | refine m_val rfl ?_ (v_loadE hz) | refine m_val rfl ?_ (v_loadE0 hz) | refine m_val rfl ?_ (v_loadEA hz) | refine m_val rfl ?_ (v_loadEA0 hz))
    (refine m_eff rfl ?_ (e_callN rfl rfl fun w hw => cloneI_m z.acks.l z.acks.a z.acks.c w (hs.acks z hzm)); rintro _ _ ⟨_, ⟨k, hk, rfl, rfl⟩, rfl⟩; simp only [List.cons_append, List.nil_append]; refine m_go ?_)
    refine m_val rfl ?_ ((v_index (xs := l.map ReadQ.enc) (hn := by rw [List.length_map]; exact h2)))
    (first | refine m_val rfl ?_ v_field | refine m_val rfl ?_ v_fieldE | refine m_val rfl ?_ v_field0)
    (first | (refine m_effn rfl ?_ e_store; rintro _ _ rfl; refine m_go ?_) | (refine m_effn rfl ?_ e_storeW; rintro _ _ rfl; refine m_go ?_) | (refine m_effn rfl ?_ e_storeA; rintro _ _ rfl; refine m_go ?_) | (refine m_effn rfl ?_ (e_storeE hz); rintro _ _ rfl; refine m_go ?_) | (refine m_effn rfl ?_ (e_storeE0 hz); rintro _ _ rfl; refine m_go ?_))
    repeat (first | refine St.imp ?_ | (refine st_seq ?_; intro K hK) | refine st_t ?_ | refine st_f ?_ | refine st_miss ?_)
    have hlt2 : i.toNat < l.length := by omega
    have e1 : (i + 1).toNat = i.toNat + 1 := by omega
    have eg : (l.set i.toNat { z with acks := k })[i.toNat]? = some { z with acks := k } := List.getElem?_set_self hlt2
    have eRow : (l.map ReadQ.enc).set i.toNat (ovw (ReadQ.enc z) 3 [k.v]) = (l.set i.toNat { z with acks := k }).map ReadQ.enc := by rw [List.map_set]; rfl
    have eAck : (l.take i.toNat).map (fun x => rowI x.acks) ++ [rowI k] = ((l.set i.toNat { z with acks := k }).take (i + 1).toNat).map (fun x => rowI x.acks) := by
      rw [e1, List.take_add_one, eg, List.take_set_of_le (Nat.le_refl _), List.map_append]
      rfl
    have eP : (l.set i.toNat { z with acks := k }).map ReadQ.p = l.map ReadQ.p := by
      rw [List.map_set]
      have : ReadQ.p { z with acks := k } = ReadQ.p z := by simp only [ReadQ.p, hk]
      rw [this]
      exact set_self (by rw [List.getElem?_map, hz]; rfl)
    repeat (first | refine St.imp ?_ | (refine st_seq ?_; intro K hK) | refine st_t ?_ | refine st_f ?_ | refine st_miss ?_)
    (first | refine a_val ?_ v_add | refine a_val ?_ v_cat)
    refine a_val ?_ v_move
    repeat (first | refine St.imp ?_ | (refine st_seq ?_; intro K hK) | refine st_t ?_ | refine st_f ?_ | refine st_miss ?_)
    refine a_weak (hKL (i + 1, l.set i.toNat { z with acks := k }) ⟨by simp only; omega, by simp only; omega, by simp only [List.length_set]; exact h2, by simp only; rw [eP]; exact h3, fun j hj => ?_⟩ (by simp only; omega)) (ha := ?ha)
    · simp only at hj ⊢
      rw [List.getElem?_set_ne (by omega)]
      exact h4 j (by omega)
    case ha =>
      refine Go.Eng.Ent.trans (Bs := rowI k :: many ((l.take i.toNat).map fun x => rowI x.acks) :: [.blk b1 (ownC R x v1 v2 v3 v4 y) 32, .row (.slice y.a y.l.length y.c) 57 4 ((l.map ReadQ.enc).set i.toNat (ovw (ReadQ.enc z) 3 [k.v])), rowE x, rowI v1, rowI v2, rowI v3, rowI v4, .blk b2 zeroR 32]) Go.Eng.Ent.pickC (Go.Eng.Ent.trans Go.Eng.Ent.many_snoc ?_)
      rw [eRow, eAck]
      exact Go.Eng.Ent.pickC
  · have hge : i = y.l.length := by have : ¬ i < y.l.length := by simpa using hc
                                    omega
    have hit : i.toNat = l.length := by omega
    have eA : l.take i.toNat = l := List.take_of_length_le (by omega)
    have eN : (⟨l, y.a, y.c⟩ : At ReadQ).v = y.v := by
      show Value.slice _ l.length _ = Value.slice _ y.l.length _
      rw [h2]
    repeat (first | refine St.imp ?_ | (refine st_seq ?_; intro K hK) | refine st_t ?_ | refine st_f ?_ | refine st_miss ?_)
    repeat (first | refine St.imp ?_ | (refine st_seq ?_; intro K hK) | refine st_t ?_ | refine st_f ?_ | refine st_miss ?_)
    (first | refine a_val ?_ v_load | refine a_val ?_ v_loadA | refine a_val ?_ (v_loadE hz) | refine a_val ?_ (v_loadE0 hz) | refine a_val ?_ (v_loadEA hz) | refine a_val ?_ (v_loadEA0 hz))
    (first | (refine a_effn ?_ e_store; rintro _ _ rfl) | (refine a_effn ?_ e_storeW; rintro _ _ rfl) | (refine a_effn ?_ e_storeA; rintro _ _ rfl) | (refine a_effn ?_ (e_storeE hz); rintro _ _ rfl) | (refine a_effn ?_ (e_storeE0 hz); rintro _ _ rfl))
    repeat (first | refine St.imp ?_ | (refine st_seq ?_; intro K hK) | refine st_t ?_ | refine st_f ?_ | refine st_miss ?_)
    first | refine a_retP [rowE x, rowI v1, rowI v2, rowI v3, rowI v4, .row (.slice y.a y.l.length y.c) 57 4 (l.map ReadQ.enc), acksA (l.take i.toNat)] Try.results30 ?_ | refine a_endP [rowE x, rowI v1, rowI v2, rowI v3, rowI v4, .row (.slice y.a y.l.length y.c) 57 4 (l.map ReadQ.enc), acksA (l.take i.toNat)] Try.results30 ?_
    refine ⟨⟨R.id, R.nodes, R.role, R.term, R.vote, R.leader, ⟨R.log.base, R.log.baseTerm, x⟩, R.snap, R.commit, R.elapsed, R.timeout, R.seed, v1, v2, v3, v4, R.round, ⟨l, y.a, y.c⟩, R.part, R.partOf⟩, ?_, ?_, ?_⟩
    · simp only [RaftQ.p, LogQ.p, hx, hv1, hv2, hv3, hv4, h3]
    · rw [eN]
    · rw [eA]
      show _ = [rowE x, rowI v1, rowI v2, rowI v3, rowI v4, Atom.row (.slice y.a l.length y.c) 57 4 (l.map ReadQ.enc), acksA l]
      rw [h2]
end Go.Proofs.Ytaclpbkbjmbceaa

/-
  RAFT: Tick.
-/
import Derived.Test.YtaclpbkbjmbceaaRo
set_option linter.unusedVariables false
set_option linter.unusedSimpArgs false
set_option maxRecDepth 100000
set_option maxHeartbeats 4000000
namespace Go.Proofs.Ytaclpbkbjmbceaa
open Go.Eng
/-! ### Plainly: how long lists get -/
structure Small (R : Raft) : Prop where
  log : R.log.ents.length ≤ 1000
  votes : R.votes.length ≤ 1000
  next : R.next.length ≤ 1000
  mtch : R.mtch.length ≤ 1000
  sent : R.sent.length ≤ 1000
  reads : R.reads.length ≤ 1000
  acks : ∀ x ∈ R.reads, x.acks.length ≤ 1000
theorem Small.q {R : RaftQ} (h : Small R.p) : SmallQ R :=
  ⟨Nat.le_trans h.log (by decide), Nat.le_trans h.votes (by decide), Nat.le_trans h.next (by decide), Nat.le_trans h.mtch (by decide), Nat.le_trans h.sent (by decide), by have h := h.reads; simp only [List.length_map] at h; omega, fun x hx => Nat.le_trans (h.acks x.p (List.mem_map_of_mem hx)) (by decide)⟩
theorem rises_gt : ∀ (l : List Int) (a : Int), risesB (a :: l) = true → ∀ k ∈ l, a < k
  | [], a, _, k, hk => by cases hk
  | b :: r, a, h, k, hk => by
    have h2 : a < b ∧ risesB (b :: r) = true := by simpa [risesB] using h
    rcases List.mem_cons.1 hk with rfl | hk
    · exact h2.1
    · have := rises_gt r b h2.2 k hk
      omega
theorem rises_len (nodes : Int) : ∀ (l : List Int) (lo : Int), (∀ k ∈ l, lo ≤ k ∧ k ≤ nodes) → risesB l = true → (l.length : Int) ≤ max 0 (nodes - lo + 1)
  | [], lo, _, _ => by simp; omega
  | [a], lo, h, _ => by have := h a (by simp); simp; omega
  | a :: b :: r, lo, h, hr => by
    have ha := h a (by simp)
    have h2 : a < b ∧ risesB (b :: r) = true := by simpa [risesB] using hr
    have ih := rises_len nodes (b :: r) (a + 1) (fun k hk => ⟨rises_gt (b :: r) a hr k hk, (h k (List.mem_cons_of_mem _ hk)).2⟩) h2.2
    simp only [List.length_cons] at ih ⊢
    have hb := h b (by simp)
    omega
theorem rising_len {nodes : Int} {l : List Int} (h : risingB nodes l = true) (hn : 1 ≤ nodes ∧ nodes ≤ 7) : l.length ≤ 7 := by
  simp only [risingB, Bool.and_eq_true, List.all_eq_true, decide_eq_true_eq] at h
  have := rises_len nodes l 1 h.1 h.2
  omega
structure MayP (R : Raft) : Prop where
  nodes : 1 ≤ R.nodes ∧ R.nodes ≤ 7
  id : 1 ≤ R.id ∧ R.id ≤ R.nodes
  role : 0 ≤ R.role ∧ R.role ≤ 2
  term : numB R.term = true
  log : logB R.log = true
  endT : R.log.endT ≤ R.term
  snap : R.snap.size ≤ 524288
  elapsed : 0 ≤ R.elapsed ∧ R.elapsed ≤ 1099511627775
  round : 0 ≤ R.round ∧ R.round ≤ 1099511627775
  votes : R.votes.length ≤ 7
  reads : R.reads.length ≤ 32
  noreads : R.role = 2 ∨ R.reads.length = 0
  acks : ∀ x ∈ R.reads, x.acks.length ≤ 7
  next : withinB R.led 1 (R.log.endI + 1) R.next = true
  mtch : withinB R.led 0 R.log.endI R.mtch = true
  sent : withinB R.led 0 R.snap.size R.sent = true
theorem mayB_p {R : Raft} (h : mayB R = true) : MayP R := by
  simp only [mayB, headB, voteB, snapB, timeB, leadsB, partB, Bool.and_eq_true, Bool.or_eq_true, decide_eq_true_eq, List.all_eq_true] at h
  obtain ⟨⟨h1, h2, h3, h4, h5, h6⟩, ⟨h7, h8, h9, h10, h11, h12, h13⟩, ⟨h14, h15, h16, h17⟩, ⟨h18, h19, h20, h21⟩, ⟨h22, h23, h24, h25, h26, h27⟩, _⟩ := h
  simp only [numB, Bool.and_eq_true, decide_eq_true_eq] at h18 h20
  refine ⟨⟨h1, h2⟩, ⟨h3, h4⟩, ⟨h5, h6⟩, h7, h12, h13, by omega, h18, h20, rising_len h21 ⟨h1, h2⟩, by omega, h22, fun x hx => ?_, h25, h26, h27⟩
  have hx2 := h23 x hx
  simp only [readB, Bool.and_eq_true, decide_eq_true_eq] at hx2
  exact rising_len hx2.2.2.2.2.2.2 ⟨h1, h2⟩
theorem within_len {n lo hi : Int} {l : List Int} (h : withinB n lo hi l = true) : (l.length : Int) = n ∧ ∀ k ∈ l, lo ≤ k ∧ k ≤ hi := by
  simp only [withinB, Bool.and_eq_true, List.all_eq_true, decide_eq_true_eq] at h
  exact ⟨h.2, h.1⟩
theorem MayP.led {R : Raft} (h : MayP R) : 0 ≤ R.led ∧ R.led ≤ 7 := by
  have := h.nodes
  unfold Raft.led
  split <;> omega
theorem MayP.small {R : Raft} (h : MayP R) : Small R := by
  have hl := h.led
  have h1 := (within_len h.next).1
  have h2 := (within_len h.mtch).1
  have h3 := (within_len h.sent).1
  have h4 := h.log
  simp only [logB, Bool.and_eq_true, decide_eq_true_eq] at h4
  exact ⟨by omega, Nat.le_trans h.votes (by decide), by omega, by omega, by omega, Nat.le_trans h.reads (by decide), fun x hx => Nat.le_trans (h.acks x hx) (by decide)⟩
theorem MayP.alone {R : Raft} (h : MayP R) (hr : R.role ≠ 2) : R.next = [] ∧ R.mtch = [] ∧ R.sent = [] ∧ R.reads = [] := by
  have hl : R.led = 0 := if_neg hr
  have h1 := (within_len h.next).1
  have h2 := (within_len h.mtch).1
  have h3 := (within_len h.sent).1
  have h4 := h.noreads.resolve_left hr
  exact ⟨List.eq_nil_of_length_eq_zero (by omega), List.eq_nil_of_length_eq_zero (by omega), List.eq_nil_of_length_eq_zero (by omega), List.eq_nil_of_length_eq_zero h4⟩
theorem getD_mem {l : List Int} {j : Nat} (h : j < l.length) : l.getD j 0 ∈ l := by
  rw [List.getD_eq_getElem?_getD, List.getElem?_eq_getElem h]
  exact List.getElem_mem h
theorem MayP.send {R : Raft} (h : MayP R) (hr : R.role = 2) (k : Int) (h1 : 1 ≤ k) (h2 : k ≤ R.nodes) : Sendable R k := by
  have hl : R.led = R.nodes := if_pos hr
  have e1 := within_len h.next
  have e3 := within_len h.sent
  have hn := e1.2 _ (getD_mem (l := R.next) (j := (k - 1).toNat) (by omega))
  have hs := e3.2 _ (getD_mem (l := R.sent) (j := (k - 1).toNat) (by omega))
  have := h.snap
  exact ⟨h.log, h1, by omega, by omega, hn.1, hn.2, hs.1, hs.2, by omega⟩
theorem small_settle {R : Raft} (h : Small R) : Small R.settle := by
  simp only [Raft.settle]
  split
  · exact ⟨h.log, h.votes, h.next, by simp only [List.length_set]; exact h.mtch, h.sent, h.reads, h.acks⟩
  · exact ⟨h.log, h.votes, h.next, by simp only [List.length_set]; exact h.mtch, h.sent, h.reads, h.acks⟩
theorem small_standF {R : Raft} (h : MayP R) : Small (standF R).1 := by
  have hs := h.small
  have h4 := h.log
  simp only [logB, Bool.and_eq_true, decide_eq_true_eq] at h4
  have hn := h.nodes
  unfold standF
  split
  · exact ⟨hs.log, hs.votes, hs.next, hs.mtch, hs.sent, hs.reads, hs.acks⟩
  · have hstands : Small R.stands := ⟨hs.log, Nat.le_of_ble_eq_true rfl, Nat.le_of_ble_eq_true rfl, Nat.le_of_ble_eq_true rfl, Nat.le_of_ble_eq_true rfl, Nat.le_of_ble_eq_true rfl, fun x hx => by cases hx⟩
    unfold winsF
    split
    · unfold leadF
      split
      · unfold Raft.falls
        split <;> exact ⟨hs.log, Nat.le_of_ble_eq_true rfl, Nat.le_of_ble_eq_true rfl, Nat.le_of_ble_eq_true rfl, Nat.le_of_ble_eq_true rfl, Nat.le_of_ble_eq_true rfl, fun x hx => by cases hx⟩
      · refine small_settle ⟨?_, Nat.le_of_ble_eq_true rfl, ?_, ?_, ?_, Nat.le_of_ble_eq_true rfl, fun x hx => by cases hx⟩
        · show (R.log.ents ++ [_]).length ≤ 1000
          simp only [List.length_append, List.length_singleton]
          omega
        · show (List.replicate R.nodes.toNat _).length ≤ 1000
          rw [List.length_replicate]
          omega
        · show (List.replicate R.nodes.toNat _).length ≤ 1000
          rw [List.length_replicate]
          omega
        · show (List.replicate R.nodes.toNat _).length ≤ 1000
          rw [List.length_replicate]
          omega
    · exact hstands
abbrev tickQ (R : RaftQ) : RaftQ := { R with elapsed := min (R.elapsed + 1) 1099511627775 }
abbrev beatQ (R : RaftQ) : RaftQ := { R with elapsed := 0, round := min (R.round + 1) 1099511627775 }
theorem tick_m (R : RaftQ) (w : World) [hR : RaftAt w (fpAll []) R] (hs : SmallQ R) (hsz : R.snap.size ≤ 140737488355328 ∧ R.part.size ≤ 140737488355328) : Meets Try.prog 14 [.agg R.enc.toArray] w (fpAll []) (fun v As => (mayB R.p = false ∧ v = .tuple #[.agg zeroR.toArray, .slice none 0 0, .int .i64 1] ∧ As = []) ∨ (mayB R.p = true ∧ ∃ (R' : RaftQ) (o' : At MsgQ), (R'.p, o'.l.map MsgQ.p) = tickF R.p ∧ v = .tuple #[.agg R'.enc.toArray, o'.v, .int .i64 0] ∧ As = [rowM o', entsA o'.l, rowE R'.log.ents, rowI R'.votes, rowI R'.next, rowI R'.mtch, rowI R'.sent, rowR R'.reads, acksA R'.reads.l])) := by
  refine enter tysOK Try.func14 rfl Try.ntmps14 rfl (HeapOK.start w) ?_
  repeat (first | refine St.imp ?_ | (refine st_seq ?_; intro K hK) | refine st_t ?_ | refine st_f ?_ | refine st_miss ?_)
  (refine a_eff ?_ (e_box); rintro _ _ ⟨b1, rfl, rfl⟩)
  (refine a_eff ?_ (e_alloc); rintro _ _ ⟨b2, rfl, rfl⟩)
  refine a_val ?_ v_assign
  refine a_val ?_ v_assign
  repeat (first | refine St.imp ?_ | (refine st_seq ?_; intro K hK) | refine st_t ?_ | refine st_f ?_ | refine st_miss ?_)
  refine a_val ?_ (v_loadA (vs := R.enc))
  (refine a_eff ?_ (e_callP rfl rfl fun w hw => may_m R w hsz); rintro _ _ ⟨rfl, rfl⟩)
  refine a_val ?_ v_not
  repeat (first | refine St.imp ?_ | (refine st_seq ?_; intro K hK) | refine st_t ?_ | refine st_f ?_ | refine st_miss ?_)
  refine a_cond (fun hc => ?_) (fun hc => ?_)
  · have hc : mayB R.p = false := by simpa using hc
    repeat (first | refine St.imp ?_ | (refine st_seq ?_; intro K hK) | refine st_t ?_ | refine st_f ?_ | refine st_miss ?_)
    refine a_val ?_ (v_build (vs := zeroR))
    (first | (refine a_effn ?_ e_store; rintro _ _ rfl) | (refine a_effn ?_ e_storeW; rintro _ _ rfl) | (refine a_effn ?_ e_storeA; rintro _ _ rfl))
    refine a_val ?_ v_assign
    refine a_val ?_ v_assign
    repeat (first | refine St.imp ?_ | (refine st_seq ?_; intro K hK) | refine st_t ?_ | refine st_f ?_ | refine st_miss ?_)
    first | refine a_retP ([] : List Atom) Try.results14 ?_ | refine a_endP ([] : List Atom) Try.results14 ?_
    exact .inl ⟨hc, rfl, rfl⟩
  have hm : mayB R.p = true := by simpa using hc
  repeat (first | refine St.imp ?_ | (refine st_seq ?_; intro K hK) | refine st_t ?_ | refine st_f ?_ | refine st_miss ?_)
  repeat (first | refine St.imp ?_ | (refine st_seq ?_; intro K hK) | refine st_t ?_ | refine st_f ?_ | refine st_miss ?_)
  refine a_val ?_ (v_loadA (vs := R.enc))
  (refine a_eff ?_ (e_callN rfl rfl fun w hw => begin_m R w hs); rintro _ _ ⟨_, ⟨b, R1, hp, rfl, rfl⟩, rfl⟩; simp only [List.cons_append, List.nil_append])
  refine a_val ?_ v_assign
  repeat (first | refine St.imp ?_ | (refine st_seq ?_; intro K hK) | refine st_t ?_ | refine st_f ?_ | refine st_miss ?_)
  have hM : MayP R1.p := mayB_p (by rw [hp]; exact hm)
  have hel : 0 ≤ R1.elapsed ∧ R1.elapsed ≤ 1099511627775 := hM.elapsed
  have hrd : 0 ≤ R1.round ∧ R1.round ≤ 1099511627775 := hM.round
  have hMQ : MayP (tickQ R1).p := ⟨hM.nodes, hM.id, hM.role, hM.term, hM.log, hM.endT, hM.snap, by show 0 ≤ min (R1.elapsed + 1) 1099511627775 ∧ min (R1.elapsed + 1) 1099511627775 ≤ 1099511627775; omega, hM.round, hM.votes, hM.reads, hM.noreads, hM.acks, hM.next, hM.mtch, hM.sent⟩
  have hsn : R1.snap.size ≤ 524288 := hM.snap
  have hlc : LenC R1.log.ents.l := ⟨by have h : R1.log.ents.l.length ≤ 1000 := hM.small.log; omega⟩
  have hlN : LenC R1.next.l := ⟨by have h : R1.next.l.length ≤ 1000 := hM.small.next; omega⟩
  have hlS : LenC R1.sent.l := ⟨by have h : R1.sent.l.length ≤ 1000 := hM.small.sent; omega⟩
  repeat (first | refine St.imp ?_ | (refine st_seq ?_; intro K hK) | refine st_t ?_ | refine st_f ?_ | refine st_miss ?_)
  refine a_val ?_ v_move
  refine a_val ?_ v_move
  (first | refine a_val ?_ v_nilCheck | refine a_val ?_ v_nilCheckF)
  (first | refine a_val ?_ v_field | refine a_val ?_ v_fieldE | refine a_val ?_ v_field0)
  (first | refine a_val ?_ v_field | refine a_val ?_ v_fieldE | refine a_val ?_ v_field0)
  (first | refine a_val ?_ v_field | refine a_val ?_ v_fieldE | refine a_val ?_ v_field0)
  (first | refine a_val ?_ v_load | refine a_val ?_ v_loadA)
  (first | refine a_val ?_ v_add | refine a_val ?_ v_cat)
  refine a_val ?_ v_min
  (first | refine a_val ?_ v_nilCheck | refine a_val ?_ v_nilCheckF)
  (first | refine a_val ?_ v_field | refine a_val ?_ v_fieldE | refine a_val ?_ v_field0)
  (first | refine a_val ?_ v_field | refine a_val ?_ v_fieldE | refine a_val ?_ v_field0)
  (first | refine a_val ?_ v_field | refine a_val ?_ v_fieldE | refine a_val ?_ v_field0)
  (first | (refine a_effn ?_ e_store; rintro _ _ rfl) | (refine a_effn ?_ e_storeW; rintro _ _ rfl) | (refine a_effn ?_ e_storeA; rintro _ _ rfl))
  repeat (first | refine St.imp ?_ | (refine st_seq ?_; intro K hK) | refine st_t ?_ | refine st_f ?_ | refine st_miss ?_)
  refine a_mix [0, 1, 2, 3, 4, 5, 6, 7, 8, 9, 10, 11, 12, 13, 14, 15, 16, 17, 18, 19, 20, 21, 22] ?_
  refine m_val rfl ?_ v_move
  (first | refine m_val rfl ?_ v_nilCheck | refine m_val rfl ?_ v_nilCheckF)
  (first | refine m_val rfl ?_ v_field | refine m_val rfl ?_ v_fieldE | refine m_val rfl ?_ v_field0)
  (first | refine m_val rfl ?_ v_field | refine m_val rfl ?_ v_fieldE | refine m_val rfl ?_ v_field0)
  (first | refine m_val rfl ?_ v_field | refine m_val rfl ?_ v_fieldE | refine m_val rfl ?_ v_field0)
  (first | refine m_val rfl ?_ v_load | refine m_val rfl ?_ v_loadA)
  (first | refine m_val rfl ?_ v_neq | refine m_val rfl ?_ v_sneq | refine m_val rfl ?_ v_bneq | refine m_val rfl ?_ v_notNil)
  refine m_val rfl ?_ v_move
  refine m_case rfl (fun hg => ?_) (fun hg => ?_)
  · have hr : R1.role ≠ 2 := by simpa using hg
    obtain ⟨a1, a2, a3, a4⟩ := hM.alone hr
    (first | refine m_val rfl ?_ v_move | refine m_skip rfl ?_)
    (first | refine m_val rfl ?_ v_nilCheck | refine m_val rfl ?_ v_nilCheckF | refine m_skip rfl ?_)
    (first | refine m_val rfl ?_ v_field | refine m_val rfl ?_ v_fieldE | refine m_val rfl ?_ v_field0 | refine m_skip rfl ?_)
    (first | refine m_val rfl ?_ v_field | refine m_val rfl ?_ v_fieldE | refine m_val rfl ?_ v_field0 | refine m_skip rfl ?_)
    (first | refine m_val rfl ?_ v_field | refine m_val rfl ?_ v_fieldE | refine m_val rfl ?_ v_field0 | refine m_skip rfl ?_)
    (first | refine m_val rfl ?_ v_load | refine m_val rfl ?_ v_loadA | refine m_skip rfl ?_)
    (first | refine m_val rfl ?_ v_move | refine m_skip rfl ?_)
    (first | refine m_val rfl ?_ v_nilCheck | refine m_val rfl ?_ v_nilCheckF | refine m_skip rfl ?_)
    (first | refine m_val rfl ?_ v_field | refine m_val rfl ?_ v_fieldE | refine m_val rfl ?_ v_field0 | refine m_skip rfl ?_)
    (first | refine m_val rfl ?_ v_field | refine m_val rfl ?_ v_fieldE | refine m_val rfl ?_ v_field0 | refine m_skip rfl ?_)
    (first | refine m_val rfl ?_ v_field | refine m_val rfl ?_ v_fieldE | refine m_val rfl ?_ v_field0 | refine m_skip rfl ?_)
    (first | refine m_val rfl ?_ v_load | refine m_val rfl ?_ v_loadA | refine m_skip rfl ?_)
    (first | refine m_val rfl ?_ v_geq | refine m_skip rfl ?_)
    (first | refine m_val rfl ?_ v_pickt | refine m_val rfl ?_ v_pickf)
    refine m_val rfl ?_ v_assign
    repeat (first | refine St.imp ?_ | (refine st_seq ?_; intro K hK) | refine st_t ?_ | refine st_f ?_ | refine st_miss ?_)
    refine a_cond (fun hc => ?_) (fun hc => ?_)
    · have hto : ¬ min (R1.elapsed + 1) 1099511627775 < R1.timeout := by have := of_decide_eq_true hc; omega
      repeat (first | refine St.imp ?_ | (refine st_seq ?_; intro K hK) | refine st_t ?_ | refine st_f ?_ | refine st_miss ?_)
      refine a_val ?_ v_move
      (refine a_eff ?_ (e_callO (stepA b (tickQ R1) nilM 62) rfl rfl fun w hw hb => stand_m b (tickQ R1) nilM 62 w hb hM.log hM.nodes hM.id hM.term hM.endT (Nat.le_trans hsn (by decide)) rfl ⟨a1, a2, a3, by simpa using a4⟩); rintro _ _ ⟨_, ⟨rfl, R2, o2, hp2, rfl⟩, rfl⟩; simp only [List.cons_append, List.nil_append])
      repeat (first | refine St.imp ?_ | (refine st_seq ?_; intro K hK) | refine st_t ?_ | refine st_f ?_ | refine st_miss ?_)
      have hs2 : SmallQ R2 := Small.q (by have e := congrArg Prod.fst hp2; simp only at e; rw [e]; exact small_standF hMQ)
      repeat (first | refine St.imp ?_ | (refine st_seq ?_; intro K hK) | refine st_t ?_ | refine st_f ?_ | refine st_miss ?_)
      refine a_val ?_ v_move
      (refine a_eff ?_ (e_callO (stepA b R2 o2 62) rfl rfl fun w hw hb => told_m b R2 o2 62 w hb hs2); rintro _ _ ⟨_, ⟨R3, hp3, rfl, rfl⟩, rfl⟩; simp only [List.cons_append, List.nil_append])
      refine a_val ?_ v_extract
      refine a_val ?_ v_extract
      refine a_val ?_ v_extract
      (refine a_effn ?_ ((e_storeW (vs := R3.enc))); rintro _ _ rfl)
      refine a_val ?_ v_assign
      refine a_val ?_ v_assign
      repeat (first | refine St.imp ?_ | (refine st_seq ?_; intro K hK) | refine st_t ?_ | refine st_f ?_ | refine st_miss ?_)
      first | refine a_retP [rowM o2, entsA o2.l, rowE R3.log.ents, rowI R3.votes, rowI R3.next, rowI R3.mtch, rowI R3.sent, rowR R3.reads, acksA R3.reads.l] Try.results14 ?_ | refine a_endP [rowM o2, entsA o2.l, rowE R3.log.ents, rowI R3.votes, rowI R3.next, rowI R3.mtch, rowI R3.sent, rowR R3.reads, acksA R3.reads.l] Try.results14 ?_
      refine .inr ⟨hm, R3, o2, ?_, rfl, rfl⟩
      rw [hp3, hp2, ← hp]
      exact ((if_neg hr).trans (if_neg hto)).symm
    · have hto : min (R1.elapsed + 1) 1099511627775 < R1.timeout := by have := of_decide_eq_false hc; omega
      repeat (first | refine St.imp ?_ | (refine st_seq ?_; intro K hK) | refine st_t ?_ | refine st_f ?_ | refine st_miss ?_)
      repeat (first | refine St.imp ?_ | (refine st_seq ?_; intro K hK) | refine st_t ?_ | refine st_f ?_ | refine st_miss ?_)
      refine a_val ?_ v_move
      (first | refine a_val ?_ v_nilCheck | refine a_val ?_ v_nilCheckF)
      (first | refine a_val ?_ v_field | refine a_val ?_ v_fieldE | refine a_val ?_ v_field0)
      (first | refine a_val ?_ v_field | refine a_val ?_ v_fieldE | refine a_val ?_ v_field0)
      (first | refine a_val ?_ v_field | refine a_val ?_ v_fieldE | refine a_val ?_ v_field0)
      (first | refine a_val ?_ v_load | refine a_val ?_ v_loadA)
      (first | refine a_val ?_ v_eql | refine a_val ?_ v_seql | refine a_val ?_ v_beql | refine a_val ?_ v_isNil)
      refine a_val ?_ v_move
      refine a_case (fun hg2 => absurd (of_decide_eq_true hg2) hr) (fun hg2 => ?_)
      repeat (first | refine a_skip ?_ | refine a_skipn ?_ | refine a_val ?_ v_pickt | refine a_val ?_ v_pickf | refine a_val ?_ v_move | refine a_val ?_ v_assign | refine St.imp ?_ | refine st_t ?_ | refine st_f ?_ | refine st_miss ?_ | (refine st_seq ?_; intro K hK))
      have hs2 : SmallQ (tickQ R1) := Small.q hMQ.small
      (refine a_eff ?_ (e_callO (stepA b (tickQ R1) nilM 62) rfl rfl fun w hw hb => told_m b (tickQ R1) nilM 62 w hb hs2); rintro _ _ ⟨_, ⟨R3, hp3, rfl, rfl⟩, rfl⟩; simp only [List.cons_append, List.nil_append])
      refine a_val ?_ v_extract
      refine a_val ?_ v_extract
      refine a_val ?_ v_extract
      (refine a_effn ?_ ((e_storeW (vs := R3.enc))); rintro _ _ rfl)
      refine a_val ?_ v_assign
      refine a_val ?_ v_assign
      repeat (first | refine St.imp ?_ | (refine st_seq ?_; intro K hK) | refine st_t ?_ | refine st_f ?_ | refine st_miss ?_)
      first | refine a_retP [rowM nilM, entsA nilM.l, rowE R3.log.ents, rowI R3.votes, rowI R3.next, rowI R3.mtch, rowI R3.sent, rowR R3.reads, acksA R3.reads.l] Try.results14 ?_ | refine a_endP [rowM nilM, entsA nilM.l, rowE R3.log.ents, rowI R3.votes, rowI R3.next, rowI R3.mtch, rowI R3.sent, rowR R3.reads, acksA R3.reads.l] Try.results14 ?_
      refine .inr ⟨hm, R3, nilM, ?_, rfl, rfl⟩
      rw [hp3, ← hp]
      exact ((if_neg hr).trans (if_pos hto)).symm
  · have hr : R1.role = 2 := by simpa using hg
    repeat (first | refine m_skip rfl ?_ | refine m_skipn rfl ?_ | refine m_val rfl ?_ v_pickt | refine m_val rfl ?_ v_pickf | refine m_val rfl ?_ v_move | refine m_val rfl ?_ v_assign | refine St.imp ?_ | refine st_t ?_ | refine st_f ?_ | refine st_miss ?_ | (refine st_seq ?_; intro K hK))
    repeat (first | refine St.imp ?_ | (refine st_seq ?_; intro K hK) | refine st_t ?_ | refine st_f ?_ | refine st_miss ?_)
    repeat (first | refine St.imp ?_ | (refine st_seq ?_; intro K hK) | refine st_t ?_ | refine st_f ?_ | refine st_miss ?_)
    refine a_val ?_ v_move
    (first | refine a_val ?_ v_nilCheck | refine a_val ?_ v_nilCheckF)
    (first | refine a_val ?_ v_field | refine a_val ?_ v_fieldE | refine a_val ?_ v_field0)
    (first | refine a_val ?_ v_field | refine a_val ?_ v_fieldE | refine a_val ?_ v_field0)
    (first | refine a_val ?_ v_field | refine a_val ?_ v_fieldE | refine a_val ?_ v_field0)
    (first | refine a_val ?_ v_load | refine a_val ?_ v_loadA)
    (first | refine a_val ?_ v_eql | refine a_val ?_ v_seql | refine a_val ?_ v_beql | refine a_val ?_ v_isNil)
    refine a_val ?_ v_move
    refine a_case (fun hg2 => ?_) (fun hg2 => absurd hr (of_decide_eq_false hg2))
    (first | refine a_val ?_ v_move | refine a_skip ?_)
    (first | refine a_val ?_ v_nilCheck | refine a_val ?_ v_nilCheckF | refine a_skip ?_)
    (first | refine a_val ?_ v_field | refine a_val ?_ v_fieldE | refine a_val ?_ v_field0 | refine a_skip ?_)
    (first | refine a_val ?_ v_field | refine a_val ?_ v_fieldE | refine a_val ?_ v_field0 | refine a_skip ?_)
    (first | refine a_val ?_ v_field | refine a_val ?_ v_fieldE | refine a_val ?_ v_field0 | refine a_skip ?_)
    (first | refine a_val ?_ v_load | refine a_val ?_ v_loadA | refine a_skip ?_)
    (first | refine a_val ?_ v_geq | refine a_skip ?_)
    (first | refine a_val ?_ v_pickt | refine a_val ?_ v_pickf)
    refine a_val ?_ v_assign
    repeat (first | refine St.imp ?_ | (refine st_seq ?_; intro K hK) | refine st_t ?_ | refine st_f ?_ | refine st_miss ?_)
    refine a_cond (fun hc => ?_) (fun hc => ?_)
    · have h2 : 2 ≤ min (R1.elapsed + 1) 1099511627775 := by have := of_decide_eq_true hc; omega
      repeat (first | refine St.imp ?_ | (refine st_seq ?_; intro K hK) | refine st_t ?_ | refine st_f ?_ | refine st_miss ?_)
      refine a_val ?_ v_move
      refine a_val ?_ v_move
      refine a_val ?_ v_move
      (first | refine a_val ?_ v_nilCheck | refine a_val ?_ v_nilCheckF)
      (first | refine a_val ?_ v_field | refine a_val ?_ v_fieldE | refine a_val ?_ v_field0)
      (first | refine a_val ?_ v_field | refine a_val ?_ v_fieldE | refine a_val ?_ v_field0)
      (first | refine a_val ?_ v_field | refine a_val ?_ v_fieldE | refine a_val ?_ v_field0)
      (first | refine a_val ?_ v_load | refine a_val ?_ v_loadA)
      (first | refine a_val ?_ v_add | refine a_val ?_ v_cat)
      refine a_val ?_ v_min
      (first | refine a_val ?_ v_nilCheck | refine a_val ?_ v_nilCheckF)
      (first | refine a_val ?_ v_field | refine a_val ?_ v_fieldE | refine a_val ?_ v_field0)
      (first | refine a_val ?_ v_field | refine a_val ?_ v_fieldE | refine a_val ?_ v_field0)
      (first | refine a_val ?_ v_field | refine a_val ?_ v_fieldE | refine a_val ?_ v_field0)
      (first | (refine a_effn ?_ e_store; rintro _ _ rfl) | (refine a_effn ?_ e_storeW; rintro _ _ rfl) | (refine a_effn ?_ e_storeA; rintro _ _ rfl))
      (first | refine a_val ?_ v_nilCheck | refine a_val ?_ v_nilCheckF)
      (first | refine a_val ?_ v_field | refine a_val ?_ v_fieldE | refine a_val ?_ v_field0)
      (first | refine a_val ?_ v_field | refine a_val ?_ v_fieldE | refine a_val ?_ v_field0)
      (first | refine a_val ?_ v_field | refine a_val ?_ v_fieldE | refine a_val ?_ v_field0)
      (first | (refine a_effn ?_ e_store; rintro _ _ rfl) | (refine a_effn ?_ e_storeW; rintro _ _ rfl) | (refine a_effn ?_ e_storeA; rintro _ _ rfl))
      repeat (first | refine St.imp ?_ | (refine st_seq ?_; intro K hK) | refine st_t ?_ | refine st_f ?_ | refine st_miss ?_)
      refine a_val ?_ v_move
      refine a_val ?_ v_move
      refine a_val ?_ v_makeFunc
      (refine a_eff ?_ (e_callO (stepB b (beatQ R1) nilM 62) rfl rfl fun w hw hb => others_m b (beatQ R1) nilM 62 23 [ptrB b] [] (fun k => [(beatQ R1).p.send k]) (fun k => by simp) hM.nodes (by simp) w hb (fun k o w' h1 h2 hne hlo hw hb => by haveI := hw; exact send_m b (beatQ R1) o 62 k w' hb (let h := hM.send hr k h1 h2; ⟨h.log, h.k1, h.kn, h.ks, h.n1, h.n2, h.s0, h.s1, h.sz⟩) hlo)); rintro _ _ ⟨_, ⟨rfl, o1, ho1, rfl⟩, rfl⟩; simp only [List.cons_append, List.nil_append])
      repeat (first | refine St.imp ?_ | (refine st_seq ?_; intro K hK) | refine st_t ?_ | refine st_f ?_ | refine st_miss ?_)
      have hS := hMQ.small
      have hs2 : SmallQ (beatQ R1) := Small.q ⟨hS.log, hS.votes, hS.next, hS.mtch, hS.sent, hS.reads, hS.acks⟩
      repeat (first | refine St.imp ?_ | (refine st_seq ?_; intro K hK) | refine st_t ?_ | refine st_f ?_ | refine st_miss ?_)
      refine a_val ?_ v_move
      (refine a_eff ?_ (e_callO (stepA b (beatQ R1) o1 62) rfl rfl fun w hw hb => told_m b (beatQ R1) o1 62 w hb hs2); rintro _ _ ⟨_, ⟨R3, hp3, rfl, rfl⟩, rfl⟩; simp only [List.cons_append, List.nil_append])
      refine a_val ?_ v_extract
      refine a_val ?_ v_extract
      refine a_val ?_ v_extract
      (refine a_effn ?_ ((e_storeW (vs := R3.enc))); rintro _ _ rfl)
      refine a_val ?_ v_assign
      refine a_val ?_ v_assign
      repeat (first | refine St.imp ?_ | (refine st_seq ?_; intro K hK) | refine st_t ?_ | refine st_f ?_ | refine st_miss ?_)
      first | refine a_retP [rowM o1, entsA o1.l, rowE R3.log.ents, rowI R3.votes, rowI R3.next, rowI R3.mtch, rowI R3.sent, rowR R3.reads, acksA R3.reads.l] Try.results14 ?_ | refine a_endP [rowM o1, entsA o1.l, rowE R3.log.ents, rowI R3.votes, rowI R3.next, rowI R3.mtch, rowI R3.sent, rowR R3.reads, acksA R3.reads.l] Try.results14 ?_
      refine .inr ⟨hm, R3, o1, ?_, rfl, rfl⟩
      rw [hp3, ho1, ← hp]
      exact ((if_pos hr).trans (if_pos h2)).symm
    · have h2 : ¬ 2 ≤ min (R1.elapsed + 1) 1099511627775 := by have := of_decide_eq_false hc; omega
      repeat (first | refine St.imp ?_ | (refine st_seq ?_; intro K hK) | refine st_t ?_ | refine st_f ?_ | refine st_miss ?_)
      have hs2 : SmallQ (tickQ R1) := Small.q hMQ.small
      repeat (first | refine St.imp ?_ | (refine st_seq ?_; intro K hK) | refine st_t ?_ | refine st_f ?_ | refine st_miss ?_)
      refine a_val ?_ v_move
      (refine a_eff ?_ (e_callO (stepA b (tickQ R1) nilM 62) rfl rfl fun w hw hb => told_m b (tickQ R1) nilM 62 w hb hs2); rintro _ _ ⟨_, ⟨R3, hp3, rfl, rfl⟩, rfl⟩; simp only [List.cons_append, List.nil_append])
      refine a_val ?_ v_extract
      refine a_val ?_ v_extract
      refine a_val ?_ v_extract
      (refine a_effn ?_ ((e_storeW (vs := R3.enc))); rintro _ _ rfl)
      refine a_val ?_ v_assign
      refine a_val ?_ v_assign
      repeat (first | refine St.imp ?_ | (refine st_seq ?_; intro K hK) | refine st_t ?_ | refine st_f ?_ | refine st_miss ?_)
      first | refine a_retP [rowM nilM, entsA nilM.l, rowE R3.log.ents, rowI R3.votes, rowI R3.next, rowI R3.mtch, rowI R3.sent, rowR R3.reads, acksA R3.reads.l] Try.results14 ?_ | refine a_endP [rowM nilM, entsA nilM.l, rowE R3.log.ents, rowI R3.votes, rowI R3.next, rowI R3.mtch, rowI R3.sent, rowR R3.reads, acksA R3.reads.l] Try.results14 ?_
      refine .inr ⟨hm, R3, nilM, ?_, rfl, rfl⟩
      rw [hp3, ← hp]
      exact ((if_pos hr).trans (if_neg h2)).symm
end Go.Proofs.Ytaclpbkbjmbceaa

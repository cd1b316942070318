/-
  RAFT: what has settled is committed.
-/
import Derived.Test.YtaclpbkbjmbceaaRi
set_option linter.unusedVariables false
set_option linter.unusedSimpArgs false
set_option maxRecDepth 100000
set_option maxHeartbeats 2000000
namespace Go.Proofs.Ytaclpbkbjmbceaa
open Go.Eng
theorem settled_in (l : List Int) : settledI l = 0 ∨ settledI l ∈ l := by
  unfold settledI
  rcases (foldl_best (P := fun x : Int => (l.length : Int) < 2 * (l.countP (fun y => decide (x ≤ y)) : Int)) l 0).2.2 with h | ⟨x, hx, _, h⟩
  · exact .inl h
  · exact .inr (h ▸ hx)
theorem rowI_addr {w : World} {x : At Int} (h : Atom.ok (rowI x) w) (h0 : 0 < x.l.length) : ∃ g, x.a = some ⟨g, 0, none⟩ := by
  rcases h.1.2 with ⟨_, hz⟩ | ⟨g, cap, cur, hv, _⟩
  · rw [List.length_map] at hz
    omega
  · injection hv with h1 h2 h3
    exact ⟨g, h1⟩
theorem mtch_same (b : Nat) (R : RaftQ) (tl : List Value) (u : TypeId) (l' : List Int) (c : Int) (h : l'.length = R.mtch.l.length) : [blkR b { R with commit := c } tl u, .row (.slice R.mtch.a R.mtch.l.length R.mtch.c) 3 1 (l'.map ints)] = [blkR b { R with mtch := ⟨l', R.mtch.a, R.mtch.c⟩, commit := c } tl u, rowI ⟨l', R.mtch.a, R.mtch.c⟩] := by
  have e : Value.slice R.mtch.a R.mtch.l.length R.mtch.c = Value.slice R.mtch.a l'.length R.mtch.c := by rw [h]
  have e2 : R.mtch.v = (⟨l', R.mtch.a, R.mtch.c⟩ : At Int).v := e
  show [Atom.blk b (RaftQ.cells { R with commit := c } tl) u, Atom.row (Value.slice R.mtch.a R.mtch.l.length R.mtch.c) _ 1 _] = [Atom.blk b (RaftQ.cells { R with mtch := ⟨l', R.mtch.a, R.mtch.c⟩, commit := c } tl) u, Atom.row (Value.slice R.mtch.a l'.length R.mtch.c) _ 1 _]
  rw [e]
  have e3 : RaftQ.cells { R with commit := c } tl = RaftQ.cells { R with mtch := ⟨l', R.mtch.a, R.mtch.c⟩, commit := c } tl := by
    unfold RaftQ.cells
    rw [e2]
  rw [e3]
theorem settle_m (b : Nat) (R : RaftQ) (tl : List Value) (u : TypeId) (w : World) (hb : HeapOK w (fpAll [blkR b R tl u, rowI R.mtch]) [blkR b R tl u, rowI R.mtch] w) [hL : LogAt w (fpAll [blkR b R tl u, rowI R.mtch]) R.log] (hlog : logB R.p.log = true) (hid : 1 ≤ R.id ∧ R.id ≤ R.mtch.l.length ∧ R.mtch.l.length ≤ 100) (hnn : ∀ x ∈ R.mtch.l, 0 ≤ x ∧ x ≤ R.log.p.endI) :
    Meets Try.prog 52 [ptrB b] w (fpAll [blkR b R tl u, rowI R.mtch]) (fun v As => v = .tuple #[] ∧ ∃ (m : At Int) (c : Int), R.p.settle = { R.p with mtch := m.l, commit := c } ∧ As = [blkR b { R with mtch := m, commit := c } tl u, rowI m]) := by
  have hend : R.log.p.endI = R.log.base + R.log.ents.l.length := log_end hlog
  have hbb : 0 ≤ R.log.base ∧ R.log.base ≤ 1099511625728 ∧ (R.log.ents.l.length : Int) ≤ 512 := by
    have h := hlog
    simp [logB] at h
    exact ⟨h.1, h.2.1, h.2.2.2.1⟩
  obtain ⟨x0, hx0⟩ := get_some (l := R.mtch.l) (j := R.id - 1) (by omega) (by omega)
  have hnn2 : ∀ x ∈ R.mtch.l.set (R.id - 1).toNat R.log.p.endI, 0 ≤ x ∧ x ≤ R.log.p.endI := fun x hx => by
    rcases List.mem_or_eq_of_mem_set hx with h | h
    · exact hnn x h
    · omega
  have hset : 0 ≤ settledI (R.mtch.l.set (R.id - 1).toNat R.log.p.endI) ∧ settledI (R.mtch.l.set (R.id - 1).toNat R.log.p.endI) ≤ R.log.p.endI := by
    rcases settled_in (R.mtch.l.set (R.id - 1).toNat R.log.p.endI) with h | h
    · omega
    · exact hnn2 _ h
  have hlc : LenC (R.mtch.l.set (R.id - 1).toNat R.log.p.endI) := ⟨by rw [List.length_set]; omega⟩
  have hif : (if R.log.p.endI < settledI (R.mtch.l.set (R.id - 1).toNat R.log.p.endI) then (0 : Int) else R.log.p.termAt (settledI (R.mtch.l.set (R.id - 1).toNat R.log.p.endI))) = R.log.p.termAt (settledI (R.mtch.l.set (R.id - 1).toNat R.log.p.endI)) := if_neg (by omega)
  obtain ⟨g, hma⟩ := rowI_addr (hb.ok (rowI R.mtch) (by simp)) (by omega)
  refine enter tysOK Try.func52 rfl Try.ntmps52 rfl (hb) ?_
  repeat (first | refine St.imp ?_ | (refine st_seq ?_; intro K hK) | refine st_t ?_ | refine st_f ?_ | refine st_miss ?_)
  refine a_val ?_ v_move
  (refine a_eff ?_ (e_callO [blkR b R tl u] rfl rfl fun w hw hb => last_m b R tl u w hb); rintro _ _ ⟨_, ⟨rfl, rfl⟩, rfl⟩; simp only [List.cons_append, List.nil_append])
  refine a_val ?_ v_move
  refine a_val ?_ v_extract
  refine a_val ?_ v_extract
  refine a_val ?_ v_assign
  refine a_val ?_ v_assign
  repeat (first | refine St.imp ?_ | (refine st_seq ?_; intro K hK) | refine st_t ?_ | refine st_f ?_ | refine st_miss ?_)
  refine a_mixC [] [0, 1, 2, 3, 4, 5, 6, 7, 8, 9, 10, 11, 12, 13] [blkR b R tl u] ?_
  refine m_val rfl ?_ v_move
  (first | refine m_val rfl ?_ v_nilCheck | refine m_val rfl ?_ v_nilCheckF)
  (first | refine m_val rfl ?_ v_field | refine m_val rfl ?_ v_fieldE | refine m_val rfl ?_ v_field0)
  (first | refine m_val rfl ?_ v_field | refine m_val rfl ?_ v_fieldE | refine m_val rfl ?_ v_field0)
  (first | refine m_val rfl ?_ v_load | refine m_val rfl ?_ v_loadA | refine m_val rfl ?_ (v_loadE hx0) | refine m_val rfl ?_ (v_loadE0 hx0) | refine m_val rfl ?_ (v_loadEA hx0) | refine m_val rfl ?_ (v_loadEA0 hx0))
  refine m_val rfl ?_ v_move
  (first | refine m_val rfl ?_ v_nilCheck | refine m_val rfl ?_ v_nilCheckF)
  (first | refine m_val rfl ?_ v_field | refine m_val rfl ?_ v_fieldE | refine m_val rfl ?_ v_field0)
  (first | refine m_val rfl ?_ v_field | refine m_val rfl ?_ v_fieldE | refine m_val rfl ?_ v_field0)
  (first | refine m_val rfl ?_ v_load | refine m_val rfl ?_ v_loadA | refine m_val rfl ?_ (v_loadE hx0) | refine m_val rfl ?_ (v_loadE0 hx0) | refine m_val rfl ?_ (v_loadEA hx0) | refine m_val rfl ?_ (v_loadEA0 hx0))
  refine m_val rfl ?_ v_sub
  refine m_val rfl ?_ v_move
  refine m_val rfl ?_ ((val_indexAddr rfl rfl rfl rfl rfl (by omega) (by omega) (fun w hw => ⟨g, 0, hma⟩)))
  (first | (refine m_effn rfl ?_ e_store; rintro _ _ rfl; refine m_go ?_) | (refine m_effn rfl ?_ e_storeW; rintro _ _ rfl; refine m_go ?_) | (refine m_effn rfl ?_ e_storeA; rintro _ _ rfl; refine m_go ?_) | (refine m_effn rfl ?_ (e_storeE hx0); rintro _ _ rfl; refine m_go ?_) | (refine m_effn rfl ?_ (e_storeE0 hx0); rintro _ _ rfl; refine m_go ?_))
  repeat (first | refine St.imp ?_ | (refine st_seq ?_; intro K hK) | refine st_t ?_ | refine st_f ?_ | refine st_miss ?_)
  refine a_castL (Cs := [.row (.slice R.mtch.a R.mtch.l.length R.mtch.c) 3 1 ((R.mtch.l.set (R.id - 1).toNat R.log.p.endI).map ints), blkR b R tl u]) ?_ (by rw [List.map_set]; rfl)
  repeat (first | refine St.imp ?_ | (refine st_seq ?_; intro K hK) | refine st_t ?_ | refine st_f ?_ | refine st_miss ?_)
  refine a_val ?_ v_move
  (first | refine a_val ?_ v_nilCheck | refine a_val ?_ v_nilCheckF)
  (first | refine a_val ?_ v_field | refine a_val ?_ v_fieldE | refine a_val ?_ v_field0)
  (first | refine a_val ?_ v_field | refine a_val ?_ v_fieldE | refine a_val ?_ v_field0)
  (first | refine a_val ?_ v_load | refine a_val ?_ v_loadA | refine a_val ?_ (v_loadE hx0) | refine a_val ?_ (v_loadE0 hx0) | refine a_val ?_ (v_loadEA hx0) | refine a_val ?_ (v_loadEA0 hx0))
  (refine a_eff ?_ (e_callP rfl rfl fun w hw => (by have h := settled_m (R.mtch.l.set (R.id - 1).toNat R.log.p.endI) R.mtch.a R.mtch.c w (by rw [List.length_set]; omega) (by rw [List.length_set]; omega) (fun x hx => (hnn2 x hx).1); rw [List.length_set] at h; exact h)); rintro _ _ ⟨rfl, rfl⟩)
  refine a_val ?_ v_assign
  repeat (first | refine St.imp ?_ | (refine st_seq ?_; intro K hK) | refine st_t ?_ | refine st_f ?_ | refine st_miss ?_)
  refine a_val ?_ v_move
  (first | refine a_val ?_ v_nilCheck | refine a_val ?_ v_nilCheckF)
  (first | refine a_val ?_ v_field | refine a_val ?_ v_fieldE | refine a_val ?_ v_field0)
  (first | refine a_val ?_ v_field | refine a_val ?_ v_fieldE | refine a_val ?_ v_field0)
  refine a_val ?_ (v_loadA (vs := R.log.enc))
  refine a_val ?_ v_move
  (refine a_eff ?_ (e_callP rfl rfl fun w hw => at_m R.log (settledI (R.mtch.l.set (R.id - 1).toNat R.log.p.endI)) w (by omega) hlog); rintro _ _ ⟨rfl, rfl⟩)
  refine a_val ?_ v_move
  refine a_val ?_ v_extract
  refine a_val ?_ v_extract
  refine a_val ?_ v_assign
  refine a_val ?_ v_assign
  repeat (first | refine St.imp ?_ | (refine st_seq ?_; intro K hK) | refine st_t ?_ | refine st_f ?_ | refine st_miss ?_)
  rw [hif]
  repeat (first | refine St.imp ?_ | (refine st_seq ?_; intro K hK) | refine st_t ?_ | refine st_f ?_ | refine st_miss ?_)
  refine a_val ?_ v_move
  refine a_val ?_ v_move
  (first | refine a_val ?_ v_nilCheck | refine a_val ?_ v_nilCheckF)
  (first | refine a_val ?_ v_field | refine a_val ?_ v_fieldE | refine a_val ?_ v_field0)
  (first | refine a_val ?_ v_field | refine a_val ?_ v_fieldE | refine a_val ?_ v_field0)
  (first | refine a_val ?_ v_load | refine a_val ?_ v_loadA | refine a_val ?_ (v_loadE hx0) | refine a_val ?_ (v_loadE0 hx0) | refine a_val ?_ (v_loadEA hx0) | refine a_val ?_ (v_loadEA0 hx0))
  refine a_val ?_ v_gtr
  refine a_val ?_ v_move
  refine a_case (fun hg => ?_) (fun hg => ?_)
  · have hg : R.commit < settledI (R.mtch.l.set (R.id - 1).toNat R.log.p.endI) := by simpa using hg
    (first | refine a_val ?_ v_move | refine a_skip ?_)
    (first | refine a_val ?_ v_move | refine a_skip ?_)
    (first | refine a_val ?_ v_nilCheck | refine a_val ?_ v_nilCheckF | refine a_skip ?_)
    (first | refine a_val ?_ v_field | refine a_val ?_ v_fieldE | refine a_val ?_ v_field0 | refine a_skip ?_)
    (first | refine a_val ?_ v_field | refine a_val ?_ v_fieldE | refine a_val ?_ v_field0 | refine a_skip ?_)
    (first | refine a_val ?_ v_load | refine a_val ?_ v_loadA | refine a_val ?_ (v_loadE hx0) | refine a_val ?_ (v_loadE0 hx0) | refine a_val ?_ (v_loadEA hx0) | refine a_val ?_ (v_loadEA0 hx0) | refine a_skip ?_)
    (first | refine a_val ?_ v_eql | refine a_val ?_ v_seql | refine a_val ?_ v_beql | refine a_val ?_ v_isNil | refine a_skip ?_)
    (first | refine a_val ?_ v_pickt | refine a_val ?_ v_pickf)
    repeat (first | refine St.imp ?_ | (refine st_seq ?_; intro K hK) | refine st_t ?_ | refine st_f ?_ | refine st_miss ?_)
    refine a_cond (fun hc => ?_) (fun hc => ?_)
    · have hc : R.log.p.termAt (settledI (R.mtch.l.set (R.id - 1).toNat R.log.p.endI)) = R.term := by simpa using hc
      repeat (first | refine St.imp ?_ | (refine st_seq ?_; intro K hK) | refine st_t ?_ | refine st_f ?_ | refine st_miss ?_)
      refine a_val ?_ v_move
      refine a_val ?_ v_move
      (first | refine a_val ?_ v_nilCheck | refine a_val ?_ v_nilCheckF)
      (first | refine a_val ?_ v_field | refine a_val ?_ v_fieldE | refine a_val ?_ v_field0)
      (first | refine a_val ?_ v_field | refine a_val ?_ v_fieldE | refine a_val ?_ v_field0)
      (first | (refine a_effn ?_ e_store; rintro _ _ rfl) | (refine a_effn ?_ e_storeW; rintro _ _ rfl) | (refine a_effn ?_ e_storeA; rintro _ _ rfl) | (refine a_effn ?_ (e_storeE hx0); rintro _ _ rfl) | (refine a_effn ?_ (e_storeE0 hx0); rintro _ _ rfl))
      repeat (first | refine St.imp ?_ | (refine st_seq ?_; intro K hK) | refine st_t ?_ | refine st_f ?_ | refine st_miss ?_)
      first | refine a_retP [blkR b { R with commit := settledI (R.mtch.l.set (R.id - 1).toNat R.log.p.endI) } tl u, .row (.slice R.mtch.a R.mtch.l.length R.mtch.c) 3 1 ((R.mtch.l.set (R.id - 1).toNat R.log.p.endI).map ints)] Try.results52 ?_ | refine a_endP [blkR b { R with commit := settledI (R.mtch.l.set (R.id - 1).toNat R.log.p.endI) } tl u, .row (.slice R.mtch.a R.mtch.l.length R.mtch.c) 3 1 ((R.mtch.l.set (R.id - 1).toNat R.log.p.endI).map ints)] Try.results52 ?_
      exact ⟨rfl, ⟨R.mtch.l.set (R.id - 1).toNat R.log.p.endI, R.mtch.a, R.mtch.c⟩, _, by unfold Raft.settle; rw [if_pos ⟨hg, hc⟩], mtch_same b R tl u _ _ (List.length_set ..)⟩
    · have hc : ¬ R.log.p.termAt (settledI (R.mtch.l.set (R.id - 1).toNat R.log.p.endI)) = R.term := by simpa using hc
      repeat (first | refine St.imp ?_ | (refine st_seq ?_; intro K hK) | refine st_t ?_ | refine st_f ?_ | refine st_miss ?_)
      first | refine a_retP [blkR b R tl u, .row (.slice R.mtch.a R.mtch.l.length R.mtch.c) 3 1 ((R.mtch.l.set (R.id - 1).toNat R.log.p.endI).map ints)] Try.results52 ?_ | refine a_endP [blkR b R tl u, .row (.slice R.mtch.a R.mtch.l.length R.mtch.c) 3 1 ((R.mtch.l.set (R.id - 1).toNat R.log.p.endI).map ints)] Try.results52 ?_
      exact ⟨rfl, ⟨R.mtch.l.set (R.id - 1).toNat R.log.p.endI, R.mtch.a, R.mtch.c⟩, R.commit, by unfold Raft.settle; rw [if_neg fun h => hc h.2], mtch_same b R tl u _ _ (List.length_set ..)⟩
  · have hg : ¬ R.commit < settledI (R.mtch.l.set (R.id - 1).toNat R.log.p.endI) := by simpa using hg
    repeat (first | refine a_skip ?_ | refine a_skipn ?_ | refine a_val ?_ v_pickt | refine a_val ?_ v_pickf | refine a_val ?_ v_move | refine a_val ?_ v_assign | refine St.imp ?_ | refine st_t ?_ | refine st_f ?_ | refine st_miss ?_ | (refine st_seq ?_; intro K hK))
    first | refine a_retP [blkR b R tl u, .row (.slice R.mtch.a R.mtch.l.length R.mtch.c) 3 1 ((R.mtch.l.set (R.id - 1).toNat R.log.p.endI).map ints)] Try.results52 ?_ | refine a_endP [blkR b R tl u, .row (.slice R.mtch.a R.mtch.l.length R.mtch.c) 3 1 ((R.mtch.l.set (R.id - 1).toNat R.log.p.endI).map ints)] Try.results52 ?_
    exact ⟨rfl, ⟨R.mtch.l.set (R.id - 1).toNat R.log.p.endI, R.mtch.a, R.mtch.c⟩, R.commit, by unfold Raft.settle; rw [if_neg fun h => hg h.1], mtch_same b R tl u _ _ (List.length_set ..)⟩
end Go.Proofs.Ytaclpbkbjmbceaa

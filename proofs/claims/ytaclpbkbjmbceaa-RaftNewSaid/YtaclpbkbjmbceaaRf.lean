/-
  RAFT: what is sent to one.
-/
import Derived.Test.YtaclpbkbjmbceaaRe
set_option linter.unusedVariables false
set_option linter.unusedSimpArgs false
set_option maxRecDepth 100000
set_option maxHeartbeats 2000000
namespace Go.Proofs.Ytaclpbkbjmbceaa
open Go.Eng
theorem cloneE_m (l : List Ent) (A : Option Addr) (c : Nat) (w : World) [hl : Sl w (fpAll []) Ent.enc 3 l A c] (hb : l.length ≤ 100000) : Meets Try.prog 37 [.slice A l.length c] w (fpAll []) (fun v As => ∃ x : At Ent, x.l = l ∧ v = x.v ∧ As = [.row (.slice x.a x.l.length x.c) 68 3 (x.l.map Ent.enc)]) := by
  refine enter tysOK Try.func37 rfl Try.ntmps37 rfl (HeapOK.start w) ?_
  repeat (first | refine St.imp ?_ | (refine st_seq ?_; intro K hK) | refine st_t ?_ | refine st_f ?_ | refine st_miss ?_)
  refine a_val ?_ v_assign
  repeat (first | refine St.imp ?_ | (refine st_seq ?_; intro K hK) | refine st_t ?_ | refine st_f ?_ | refine st_miss ?_)
  refine a_val ?_ v_move
  (first | refine a_val ?_ v_eql | refine a_val ?_ v_seql | refine a_val ?_ v_beql | refine a_val ?_ v_isNil)
  repeat (first | refine St.imp ?_ | (refine st_seq ?_; intro K hK) | refine st_t ?_ | refine st_f ?_ | refine st_miss ?_)
  refine a_cond (fun hc => ?_) (fun hc => ?_)
  · have hA : A = none := by cases A <;> simp_all
    have hn : l = [] := by
      refine List.eq_nil_of_length_eq_zero (Nat.eq_zero_of_not_pos fun h => ?_)
      obtain ⟨b, o, h2⟩ := hl.some h
      rw [hA] at h2
      cases h2
    repeat (first | refine St.imp ?_ | (refine st_seq ?_; intro K hK) | refine st_t ?_ | refine st_f ?_ | refine st_miss ?_)
    refine a_val ?_ v_assign
    repeat (first | refine St.imp ?_ | (refine st_seq ?_; intro K hK) | refine st_t ?_ | refine st_f ?_ | refine st_miss ?_)
    refine tk_ent (Ent.nilrow 68 3) ?_
    first | refine a_ret Try.results37 ?_ | refine a_end Try.results37 ?_
    exact ⟨⟨[], none, 0⟩, hn.symm, rfl, rfl⟩
  repeat (first | refine St.imp ?_ | (refine st_seq ?_; intro K hK) | refine st_t ?_ | refine st_f ?_ | refine st_miss ?_)
  (first | (refine a_eff ?_ e_buildSlice1; rintro _ _ ⟨bz, rfl, rfl⟩) | (refine a_eff ?_ e_buildSlice0; rintro _ _ ⟨bz, rfl, rfl⟩) | (refine a_eff ?_ e_buildSliceN; rintro _ _ ⟨bz, rfl, rfl⟩))
  refine a_val ?_ v_move
  (refine a_eff ?_ (e_append (hm := by simp only [List.length_nil, List.length_map, ty68]; omega)); rintro _ _ ⟨Ax, cx, rfl, rfl⟩)
  refine a_val ?_ v_assign
  repeat (first | refine St.imp ?_ | (refine st_seq ?_; intro K hK) | refine st_t ?_ | refine st_f ?_ | refine st_miss ?_)
  first | refine a_ret Try.results37 ?_ | refine a_end Try.results37 ?_
  exact ⟨⟨l, Ax, cx⟩, rfl, by simp, by simp⟩
abbrev nilE : At Ent := ⟨[], none, 0⟩
/-- What 'send' asks of a state. -/
structure Sendable (R : Raft) (k : Int) : Prop where
  log : logB R.log = true
  k1 : 1 ≤ k
  kn : k ≤ R.next.length
  ks : k ≤ R.sent.length
  n1 : 1 ≤ R.next.getD (k - 1).toNat 0
  n2 : R.next.getD (k - 1).toNat 0 ≤ R.log.endI + 1
  s0 : 0 ≤ R.sent.getD (k - 1).toNat 0
  s1 : R.sent.getD (k - 1).toNat 0 ≤ R.snap.size
  sz : R.snap.size ≤ 1099511627776
theorem getD_some {l : List Int} {j : Int} {x : Int} (h : l[j.toNat]? = some x) : l.getD j.toNat 0 = x := by rw [List.getD_eq_getElem?_getD, h]; rfl
theorem send_m (b : Nat) (R : RaftQ) (out : At MsgQ) (u : TypeId) (k : Int) (w : World) (hb : HeapOK w (fpAll (stepB b R out u)) (stepB b R out u) w) [hL : LogAt w (fpAll (stepB b R out u)) R.log] [hN : Sl w (fpAll (stepB b R out u)) ints 1 R.next.l R.next.a R.next.c] [hS : Sl w (fpAll (stepB b R out u)) ints 1 R.sent.l R.sent.a R.sent.c] (hs : Sendable R.p k) (hlen : out.l.length ≤ 2000) :
    Meets Try.prog 23 [ptrB b, .int .i64 k] w (fpAll (stepB b R out u)) (fun v As => v = .tuple #[] ∧ ∃ o' : At MsgQ, o'.l.map MsgQ.p = out.l.map MsgQ.p ++ [R.p.send k] ∧ As = stepB b R o' u) := by
  obtain ⟨hlog, hk1, hkn, hks, hn1, hn2, hs0, hs1, hsz⟩ := hs
  have hend : R.log.p.endI = R.log.base + R.log.ents.l.length := log_end hlog
  have hbb : 0 ≤ R.log.base ∧ R.log.base ≤ 1099511625728 ∧ (R.log.ents.l.length : Int) ≤ 512 := by
    have h := hlog
    simp [logB] at h
    exact ⟨h.1, h.2.1, h.2.2.2.1⟩
  have hkn : k ≤ R.next.l.length := hkn
  have hks : k ≤ R.sent.l.length := hks
  obtain ⟨nx, hnx⟩ := get_some (l := R.next.l) (j := k - 1) (by omega) (by omega)
  obtain ⟨st, hst⟩ := get_some (l := R.sent.l) (j := k - 1) (by omega) (by omega)
  have en : R.p.next.getD (k - 1).toNat 0 = nx := getD_some hnx
  have es : R.p.sent.getD (k - 1).toNat 0 = st := getD_some hst
  rw [en] at hn1 hn2
  rw [es] at hs0 hs1
  have hn2 : nx ≤ R.log.p.endI + 1 := hn2
  have hs1 : st ≤ (R.snap.size : Int) := hs1
  have hsz : R.snap.size ≤ 1099511627776 := hsz
  have hlc : LenC out.l := ⟨by omega⟩
  have hNl := hN.len
  have hSl := hS.len
  refine enter tysOK Try.func23 rfl Try.ntmps23 rfl (hb) ?_
  repeat (first | refine St.imp ?_ | (refine st_seq ?_; intro K hK) | refine st_t ?_ | refine st_f ?_ | refine st_miss ?_)
  refine a_val ?_ v_move
  (first | refine a_val ?_ v_nilCheck | refine a_val ?_ v_nilCheckF)
  (first | refine a_val ?_ v_field | refine a_val ?_ v_fieldE | refine a_val ?_ v_field0)
  (first | refine a_val ?_ v_field | refine a_val ?_ v_fieldE | refine a_val ?_ v_field0)
  (first | refine a_val ?_ v_field | refine a_val ?_ v_fieldE | refine a_val ?_ v_field0)
  (first | refine a_val ?_ v_load | refine a_val ?_ v_loadA | refine a_val ?_ (v_loadE hnx) | refine a_val ?_ (v_loadE0 hnx) | refine a_val ?_ (v_loadEA hnx) | refine a_val ?_ (v_loadEA0 hnx))
  refine a_val ?_ v_move
  refine a_val ?_ v_sub
  (first | refine a_val ?_ v_index | refine a_val ?_ v_indexB)
  (first | refine a_val ?_ v_load | refine a_val ?_ v_loadA | refine a_val ?_ (v_loadE hnx) | refine a_val ?_ (v_loadE0 hnx) | refine a_val ?_ (v_loadEA hnx) | refine a_val ?_ (v_loadEA0 hnx))
  refine a_val ?_ v_assign
  repeat (first | refine St.imp ?_ | (refine st_seq ?_; intro K hK) | refine st_t ?_ | refine st_f ?_ | refine st_miss ?_)
  refine a_val ?_ v_move
  refine a_val ?_ v_move
  (first | refine a_val ?_ v_nilCheck | refine a_val ?_ v_nilCheckF)
  (first | refine a_val ?_ v_field | refine a_val ?_ v_fieldE | refine a_val ?_ v_field0)
  (first | refine a_val ?_ v_field | refine a_val ?_ v_fieldE | refine a_val ?_ v_field0)
  (first | refine a_val ?_ v_field | refine a_val ?_ v_fieldE | refine a_val ?_ v_field0)
  (first | refine a_val ?_ v_field | refine a_val ?_ v_fieldE | refine a_val ?_ v_field0)
  (first | refine a_val ?_ v_load | refine a_val ?_ v_loadA | refine a_val ?_ (v_loadE hnx) | refine a_val ?_ (v_loadE0 hnx) | refine a_val ?_ (v_loadEA hnx) | refine a_val ?_ (v_loadEA0 hnx))
  refine a_val ?_ v_leq
  repeat (first | refine St.imp ?_ | (refine st_seq ?_; intro K hK) | refine st_t ?_ | refine st_f ?_ | refine st_miss ?_)
  refine a_cond (fun hc => ?_) (fun hc => ?_)
  · have hle : nx ≤ R.log.base := by simpa using hc
    repeat (first | refine St.imp ?_ | (refine st_seq ?_; intro K hK) | refine st_t ?_ | refine st_f ?_ | refine st_miss ?_)
    refine a_val ?_ v_move
    (first | refine a_val ?_ v_nilCheck | refine a_val ?_ v_nilCheckF)
    (first | refine a_val ?_ v_field | refine a_val ?_ v_fieldE | refine a_val ?_ v_field0)
    (first | refine a_val ?_ v_field | refine a_val ?_ v_fieldE | refine a_val ?_ v_field0)
    (first | refine a_val ?_ v_field | refine a_val ?_ v_fieldE | refine a_val ?_ v_field0)
    (first | refine a_val ?_ v_load | refine a_val ?_ v_loadA | refine a_val ?_ (v_loadE hst) | refine a_val ?_ (v_loadE0 hst) | refine a_val ?_ (v_loadEA hst) | refine a_val ?_ (v_loadEA0 hst))
    refine a_val ?_ v_move
    refine a_val ?_ v_sub
    (first | refine a_val ?_ v_index | refine a_val ?_ v_indexB)
    (first | refine a_val ?_ v_load | refine a_val ?_ v_loadA | refine a_val ?_ (v_loadE hst) | refine a_val ?_ (v_loadE0 hst) | refine a_val ?_ (v_loadEA hst) | refine a_val ?_ (v_loadEA0 hst))
    refine a_val ?_ v_assign
    repeat (first | refine St.imp ?_ | (refine st_seq ?_; intro K hK) | refine st_t ?_ | refine st_f ?_ | refine st_miss ?_)
    refine a_val ?_ v_move
    (first | refine a_val ?_ v_nilCheck | refine a_val ?_ v_nilCheckF)
    (first | refine a_val ?_ v_field | refine a_val ?_ v_fieldE | refine a_val ?_ v_field0)
    (first | refine a_val ?_ v_field | refine a_val ?_ v_fieldE | refine a_val ?_ v_field0)
    (first | refine a_val ?_ v_field | refine a_val ?_ v_fieldE | refine a_val ?_ v_field0)
    (first | refine a_val ?_ v_load | refine a_val ?_ v_loadA | refine a_val ?_ (v_loadE hst) | refine a_val ?_ (v_loadE0 hst) | refine a_val ?_ (v_loadEA hst) | refine a_val ?_ (v_loadEA0 hst))
    refine a_val ?_ v_move
    (first | refine a_val ?_ v_sliceLo | refine a_val ?_ v_sliceHi | refine a_val ?_ v_sliceLH | refine a_val ?_ v_cutLo | refine a_val ?_ v_cutHi | refine a_val ?_ v_cutLH | refine a_val ?_ v_sliceLHM)
    refine a_val ?_ v_assign
    repeat (first | refine St.imp ?_ | (refine st_seq ?_; intro K hK) | refine st_t ?_ | refine st_f ?_ | refine st_miss ?_)
    refine a_val ?_ v_move
    (first | refine a_val ?_ v_len | refine a_val ?_ v_lenS)
    refine a_val ?_ v_min
    refine a_val ?_ v_assign
    repeat (first | refine St.imp ?_ | (refine st_seq ?_; intro K hK) | refine st_t ?_ | refine st_f ?_ | refine st_miss ?_)
    refine tc_ent (Bs := rowE nilE :: stepB b R out u) (Ent.nilrow 68 3) ?_
    have hz1 : (R.snap.extract st.toNat R.snap.size).size = R.snap.size - st.toNat := by simp
    have hz2 : min ((R.snap.extract st.toNat R.snap.size).size : Int) 1024 = min 1024 ((R.snap.size : Int) - st) := by rw [hz1]; omega
    have hm : R.p.send k = MsgQ.p { kind := 5, src := R.id, dst := k, term := R.term, index := R.log.base, logTerm := R.log.baseTerm, commit := 0, round := R.round, ok := false, ents := nilE, pos := st, data := (R.snap.extract st.toNat R.snap.size).extract 0 (min ((R.snap.extract st.toNat R.snap.size).size : Int) 1024).toNat, done := decide (min ((R.snap.extract st.toNat R.snap.size).size : Int) 1024 = ((R.snap.extract st.toNat R.snap.size).size : Int)) } := by
      have e1 : (st + min 1024 ((R.snap.size : Int) - st)).toNat = st.toNat + (min 1024 ((R.snap.size : Int) - st)).toNat := by omega
      have e2 := extract2 R.snap st.toNat (min 1024 ((R.snap.size : Int) - st)).toNat (by omega)
      have e3 : decide (min 1024 ((R.snap.size : Int) - st) = ((R.snap.size - st.toNat : Nat) : Int)) = decide (st + min 1024 ((R.snap.size : Int) - st) = (R.snap.size : Int)) := by
        congr 1
        apply propext
        omega
      rw [hz2, e2, hz1, e3, ← e1]
      unfold Raft.send
      rw [en, es, if_pos (show nx ≤ R.p.log.base from hle)]
      rfl
    repeat (first | refine St.imp ?_ | (refine st_seq ?_; intro K hK) | refine st_t ?_ | refine st_f ?_ | refine st_miss ?_)
    refine a_mix [0, 1, 2, 3, 4, 5, 6, 7, 8, 9, 10, 11, 12, 13, 14, 15, 16, 17, 18, 19, 20, 21, 22, 23, 24, 25, 26, 27, 28, 29, 30, 31, 32] ?_
    refine m_val rfl ?_ v_move
    refine m_val rfl ?_ v_move
    refine m_val rfl ?_ v_move
    (first | refine m_val rfl ?_ v_nilCheck | refine m_val rfl ?_ v_nilCheckF)
    (first | refine m_val rfl ?_ v_field | refine m_val rfl ?_ v_fieldE | refine m_val rfl ?_ v_field0)
    (first | refine m_val rfl ?_ v_field | refine m_val rfl ?_ v_fieldE | refine m_val rfl ?_ v_field0)
    (first | refine m_val rfl ?_ v_field | refine m_val rfl ?_ v_fieldE | refine m_val rfl ?_ v_field0)
    (first | refine m_val rfl ?_ v_field | refine m_val rfl ?_ v_fieldE | refine m_val rfl ?_ v_field0)
    (first | refine m_val rfl ?_ v_load | refine m_val rfl ?_ v_loadA | refine m_val rfl ?_ (v_loadE hst) | refine m_val rfl ?_ (v_loadE0 hst) | refine m_val rfl ?_ (v_loadEA hst) | refine m_val rfl ?_ (v_loadEA0 hst))
    refine m_val rfl ?_ v_move
    (first | refine m_val rfl ?_ v_nilCheck | refine m_val rfl ?_ v_nilCheckF)
    (first | refine m_val rfl ?_ v_field | refine m_val rfl ?_ v_fieldE | refine m_val rfl ?_ v_field0)
    (first | refine m_val rfl ?_ v_field | refine m_val rfl ?_ v_fieldE | refine m_val rfl ?_ v_field0)
    (first | refine m_val rfl ?_ v_field | refine m_val rfl ?_ v_fieldE | refine m_val rfl ?_ v_field0)
    (first | refine m_val rfl ?_ v_field | refine m_val rfl ?_ v_fieldE | refine m_val rfl ?_ v_field0)
    (first | refine m_val rfl ?_ v_load | refine m_val rfl ?_ v_loadA | refine m_val rfl ?_ (v_loadE hst) | refine m_val rfl ?_ (v_loadE0 hst) | refine m_val rfl ?_ (v_loadEA hst) | refine m_val rfl ?_ (v_loadEA0 hst))
    refine m_val rfl ?_ v_move
    (first | refine m_val rfl ?_ v_nilCheck | refine m_val rfl ?_ v_nilCheckF)
    (first | refine m_val rfl ?_ v_field | refine m_val rfl ?_ v_fieldE | refine m_val rfl ?_ v_field0)
    (first | refine m_val rfl ?_ v_field | refine m_val rfl ?_ v_fieldE | refine m_val rfl ?_ v_field0)
    (first | refine m_val rfl ?_ v_field | refine m_val rfl ?_ v_fieldE | refine m_val rfl ?_ v_field0)
    (first | refine m_val rfl ?_ v_load | refine m_val rfl ?_ v_loadA | refine m_val rfl ?_ (v_loadE hst) | refine m_val rfl ?_ (v_loadE0 hst) | refine m_val rfl ?_ (v_loadEA hst) | refine m_val rfl ?_ (v_loadEA0 hst))
    refine m_val rfl ?_ v_move
    refine m_val rfl ?_ v_move
    refine m_val rfl ?_ v_move
    (first | refine m_val rfl ?_ v_sliceLo | refine m_val rfl ?_ v_sliceHi | refine m_val rfl ?_ v_sliceLH | refine m_val rfl ?_ v_cutLo | refine m_val rfl ?_ v_cutHi | refine m_val rfl ?_ v_cutLH | refine m_val rfl ?_ v_sliceLHM)
    refine m_val rfl ?_ v_move
    refine m_val rfl ?_ v_move
    (first | refine m_val rfl ?_ v_len | refine m_val rfl ?_ v_lenS)
    (first | refine m_val rfl ?_ v_eql | refine m_val rfl ?_ v_seql | refine m_val rfl ?_ v_beql | refine m_val rfl ?_ v_isNil)
    refine m_val rfl ?_ (v_build (vs := MsgQ.enc { kind := 5, src := 0, dst := k, term := 0, index := R.log.base, logTerm := R.log.baseTerm, commit := 0, round := R.round, ok := false, ents := nilE, pos := st, data := (R.snap.extract st.toNat R.snap.size).extract 0 (min ((R.snap.extract st.toNat R.snap.size).size : Int) 1024).toNat, done := decide (min ((R.snap.extract st.toNat R.snap.size).size : Int) 1024 = ((R.snap.extract st.toNat R.snap.size).size : Int)) }))
    (first | (refine m_eff rfl ?_ e_buildSlice1; rintro _ _ ⟨bz, rfl, rfl⟩; refine m_go ?_) | (refine m_eff rfl ?_ e_buildSlice0; rintro _ _ ⟨bz, rfl, rfl⟩; refine m_go ?_) | (refine m_eff rfl ?_ e_buildSliceN; rintro _ _ ⟨bz, rfl, rfl⟩; refine m_go ?_))
    (refine m_eff rfl ?_ (e_callO (rowE nilE :: stepB b R out u) rfl rfl fun w hw hb => (haveI := Sl.blk1 (hw := hw) (s := 13) (enc := MsgQ.enc) (w := w) (Bs := rowE nilE :: stepB b R out u) (g := bz) { kind := 5, src := 0, dst := k, term := 0, index := R.log.base, logTerm := R.log.baseTerm, commit := 0, round := R.round, ok := false, ents := nilE, pos := st, data := (R.snap.extract st.toNat R.snap.size).extract 0 (min ((R.snap.extract st.toNat R.snap.size).size : Int) 1024).toNat, done := decide (min ((R.snap.extract st.toNat R.snap.size).size : Int) 1024 = ((R.snap.extract st.toNat R.snap.size).size : Int)) }; say_m b bz R out { kind := 5, src := 0, dst := k, term := 0, index := R.log.base, logTerm := R.log.baseTerm, commit := 0, round := R.round, ok := false, ents := nilE, pos := st, data := (R.snap.extract st.toNat R.snap.size).extract 0 (min ((R.snap.extract st.toNat R.snap.size).size : Int) 1024).toNat, done := decide (min ((R.snap.extract st.toNat R.snap.size).size : Int) 1024 = ((R.snap.extract st.toNat R.snap.size).size : Int)) } u w hb (by omega))); rintro _ _ ⟨_, ⟨rfl, o', ho', rfl⟩, rfl⟩; simp only [List.cons_append, List.nil_append]; refine m_go ?_)
    repeat (first | refine St.imp ?_ | (refine st_seq ?_; intro K hK) | refine st_t ?_ | refine st_f ?_ | refine st_miss ?_)
    first | refine a_retP (stepB b R o' u) Try.results23 ?_ | refine a_endP (stepB b R o' u) Try.results23 ?_
    exact ⟨rfl, o', by rw [ho', List.map_append, hm]; rfl, rfl⟩
  · have hgt : ¬ nx ≤ R.log.base := by simpa using hc
    repeat (first | refine St.imp ?_ | (refine st_seq ?_; intro K hK) | refine st_t ?_ | refine st_f ?_ | refine st_miss ?_)
    repeat (first | refine St.imp ?_ | (refine st_seq ?_; intro K hK) | refine st_t ?_ | refine st_f ?_ | refine st_miss ?_)
    refine a_val ?_ v_move
    (first | refine a_val ?_ v_nilCheck | refine a_val ?_ v_nilCheckF)
    (first | refine a_val ?_ v_field | refine a_val ?_ v_fieldE | refine a_val ?_ v_field0)
    (first | refine a_val ?_ v_field | refine a_val ?_ v_fieldE | refine a_val ?_ v_field0)
    (first | refine a_val ?_ v_field | refine a_val ?_ v_fieldE | refine a_val ?_ v_field0)
    refine a_val ?_ (v_loadA (vs := R.log.enc))
    refine a_val ?_ v_move
    refine a_val ?_ v_sub
    (refine a_eff ?_ (e_callP rfl rfl fun w hw => at_m R.log (nx - 1) w (by omega) hlog); rintro _ _ ⟨rfl, rfl⟩)
    refine a_val ?_ v_move
    refine a_val ?_ v_extract
    refine a_val ?_ v_extract
    refine a_val ?_ v_assign
    refine a_val ?_ v_assign
    repeat (first | refine St.imp ?_ | (refine st_seq ?_; intro K hK) | refine st_t ?_ | refine st_f ?_ | refine st_miss ?_)
    have hoff : (nx - R.log.base - 1).toNat ≤ R.log.ents.l.length := by omega
    repeat (first | refine St.imp ?_ | (refine st_seq ?_; intro K hK) | refine st_t ?_ | refine st_f ?_ | refine st_miss ?_)
    refine a_mix [0, 1, 2, 3, 4, 5, 6, 7, 8, 9, 10, 11, 12, 13, 14, 15, 16, 17, 18] ?_
    refine m_val rfl ?_ v_move
    (first | refine m_val rfl ?_ v_nilCheck | refine m_val rfl ?_ v_nilCheckF)
    (first | refine m_val rfl ?_ v_field | refine m_val rfl ?_ v_fieldE | refine m_val rfl ?_ v_field0)
    (first | refine m_val rfl ?_ v_field | refine m_val rfl ?_ v_fieldE | refine m_val rfl ?_ v_field0)
    (first | refine m_val rfl ?_ v_field | refine m_val rfl ?_ v_fieldE | refine m_val rfl ?_ v_field0)
    (first | refine m_val rfl ?_ v_field | refine m_val rfl ?_ v_fieldE | refine m_val rfl ?_ v_field0)
    (first | refine m_val rfl ?_ v_load | refine m_val rfl ?_ v_loadA | refine m_val rfl ?_ (v_loadE hst) | refine m_val rfl ?_ (v_loadE0 hst) | refine m_val rfl ?_ (v_loadEA hst) | refine m_val rfl ?_ (v_loadEA0 hst))
    refine m_val rfl ?_ v_move
    refine m_val rfl ?_ v_move
    (first | refine m_val rfl ?_ v_nilCheck | refine m_val rfl ?_ v_nilCheckF)
    (first | refine m_val rfl ?_ v_field | refine m_val rfl ?_ v_fieldE | refine m_val rfl ?_ v_field0)
    (first | refine m_val rfl ?_ v_field | refine m_val rfl ?_ v_fieldE | refine m_val rfl ?_ v_field0)
    (first | refine m_val rfl ?_ v_field | refine m_val rfl ?_ v_fieldE | refine m_val rfl ?_ v_field0)
    (first | refine m_val rfl ?_ v_field | refine m_val rfl ?_ v_fieldE | refine m_val rfl ?_ v_field0)
    (first | refine m_val rfl ?_ v_load | refine m_val rfl ?_ v_loadA | refine m_val rfl ?_ (v_loadE hst) | refine m_val rfl ?_ (v_loadE0 hst) | refine m_val rfl ?_ (v_loadEA hst) | refine m_val rfl ?_ (v_loadEA0 hst))
    refine m_val rfl ?_ v_sub
    refine m_val rfl ?_ v_sub
    (first | refine m_val rfl ?_ v_sliceLo | refine m_val rfl ?_ v_sliceHi | refine m_val rfl ?_ v_sliceLH | refine m_val rfl ?_ v_cutLo | refine m_val rfl ?_ v_cutHi | refine m_val rfl ?_ v_cutLH | refine m_val rfl ?_ v_sliceLHM)
    refine m_val rfl ?_ v_assign
    repeat (first | refine St.imp ?_ | (refine st_seq ?_; intro K hK) | refine st_t ?_ | refine st_f ?_ | refine st_miss ?_)
    have hd : Sl w (fpAll (stepB b R out u)) Ent.enc 3 (R.log.ents.l.drop (nx - R.log.base - 1).toNat) (cutA R.log.ents.a 3 R.log.ents.c (nx - R.log.base - 1).toNat) (R.log.ents.c - (nx - R.log.base - 1).toNat) := hL.sl.drop _
    have hcap := hL.sl.cap
    have hm16 : min (16 : Int) ((R.log.ents.l.length - (nx - R.log.base - 1).toNat : Nat) : Int) = ((min 16 (R.log.ents.l.length - (nx - R.log.base - 1).toNat) : Nat) : Int) := by omega
    have hdt := hd.takeC (min (16 : Int) ((R.log.ents.l.length - (nx - R.log.base - 1).toNat : Nat) : Int)).toNat
    have hdl : ((R.log.ents.l.drop (nx - R.log.base - 1).toNat).take (min (16 : Int) ((R.log.ents.l.length - (nx - R.log.base - 1).toNat : Nat) : Int)).toNat).length = (min (16 : Int) ((R.log.ents.l.length - (nx - R.log.base - 1).toNat : Nat) : Int)).toNat := by
      simp only [List.length_take, List.length_drop]
      omega
    have hm : ∀ x : At Ent, x.l = (R.log.ents.l.drop (nx - R.log.base - 1).toNat).take (min (16 : Int) ((R.log.ents.l.length - (nx - R.log.base - 1).toNat : Nat) : Int)).toNat → R.p.send k = MsgQ.p { kind := 3, src := R.id, dst := k, term := R.term, index := nx - 1, logTerm := (if R.log.p.endI < nx - 1 then 0 else R.log.p.termAt (nx - 1)), commit := R.commit, round := R.round, ok := false, ents := x, pos := 0, data := noB, done := false } := fun x hx => by
      have e1 : (R.log.ents.l.drop (nx - R.log.base - 1).toNat).take (min (16 : Int) ((R.log.ents.l.length - (nx - R.log.base - 1).toNat : Nat) : Int)).toNat = (R.log.ents.l.drop (nx - R.log.base - 1).toNat).take 16 := by
        rw [hm16]
        rcases Nat.le_total 16 (R.log.ents.l.length - (nx - R.log.base - 1).toNat) with h | h
        · rw [show ((min 16 (R.log.ents.l.length - (nx - R.log.base - 1).toNat) : Nat) : Int).toNat = 16 by omega]
        · rw [List.take_of_length_le (by simp; omega), List.take_of_length_le (by simp; omega)]
      rw [e1] at hx
      unfold Raft.send
      rw [en, if_neg (show ¬ nx ≤ R.p.log.base from hgt), if_neg (show ¬ R.log.p.endI < nx - 1 by omega)]
      simp only [MsgQ.p, hx]
      rfl
    repeat (first | refine St.imp ?_ | (refine st_seq ?_; intro K hK) | refine st_t ?_ | refine st_f ?_ | refine st_miss ?_)
    refine a_mix [0, 1, 2, 3, 4, 5, 6, 7, 8, 9, 10, 11, 12, 13, 14, 15, 16, 17, 18, 19, 20, 21, 22, 23, 24, 25] ?_
    refine m_val rfl ?_ v_move
    refine m_val rfl ?_ v_move
    refine m_val rfl ?_ v_move
    refine m_val rfl ?_ v_sub
    refine m_val rfl ?_ v_move
    refine m_val rfl ?_ v_move
    (first | refine m_val rfl ?_ v_nilCheck | refine m_val rfl ?_ v_nilCheckF)
    (first | refine m_val rfl ?_ v_field | refine m_val rfl ?_ v_fieldE | refine m_val rfl ?_ v_field0)
    (first | refine m_val rfl ?_ v_field | refine m_val rfl ?_ v_fieldE | refine m_val rfl ?_ v_field0)
    (first | refine m_val rfl ?_ v_field | refine m_val rfl ?_ v_fieldE | refine m_val rfl ?_ v_field0)
    (first | refine m_val rfl ?_ v_load | refine m_val rfl ?_ v_loadA | refine m_val rfl ?_ (v_loadE hst) | refine m_val rfl ?_ (v_loadE0 hst) | refine m_val rfl ?_ (v_loadEA hst) | refine m_val rfl ?_ (v_loadEA0 hst))
    refine m_val rfl ?_ v_move
    (first | refine m_val rfl ?_ v_nilCheck | refine m_val rfl ?_ v_nilCheckF)
    (first | refine m_val rfl ?_ v_field | refine m_val rfl ?_ v_fieldE | refine m_val rfl ?_ v_field0)
    (first | refine m_val rfl ?_ v_field | refine m_val rfl ?_ v_fieldE | refine m_val rfl ?_ v_field0)
    (first | refine m_val rfl ?_ v_field | refine m_val rfl ?_ v_fieldE | refine m_val rfl ?_ v_field0)
    (first | refine m_val rfl ?_ v_load | refine m_val rfl ?_ v_loadA | refine m_val rfl ?_ (v_loadE hst) | refine m_val rfl ?_ (v_loadE0 hst) | refine m_val rfl ?_ (v_loadEA hst) | refine m_val rfl ?_ (v_loadEA0 hst))
    refine m_val rfl ?_ v_move
    refine m_val rfl ?_ v_move
    (first | refine m_val rfl ?_ v_len | refine m_val rfl ?_ v_lenS)
    refine m_val rfl ?_ v_min
    (first | refine m_val rfl ?_ v_sliceLo | refine m_val rfl ?_ v_sliceHi | refine m_val rfl ?_ v_sliceLH | refine m_val rfl ?_ v_cutLo | refine m_val rfl ?_ v_cutHi | refine m_val rfl ?_ v_cutLH | refine m_val rfl ?_ v_sliceLHM)
    (refine m_eff rfl ?_ (e_callN rfl rfl fun w hw => (by haveI := hdt.keep hw; have h := cloneE_m (A := cutA (cutA R.log.ents.a 3 R.log.ents.c (nx - R.log.base - 1).toNat) 3 (R.log.ents.c - (nx - R.log.base - 1).toNat) 0) (c := R.log.ents.c - (nx - R.log.base - 1).toNat) (w := w) (l := (R.log.ents.l.drop (nx - R.log.base - 1).toNat).take (min (16 : Int) ((R.log.ents.l.length - (nx - R.log.base - 1).toNat : Nat) : Int)).toNat) (by rw [hdl]; omega); rw [hdl] at h; exact h)); rintro _ _ ⟨_, ⟨x, hxl, rfl, rfl⟩, rfl⟩; simp only [List.cons_append, List.nil_append]; refine m_go ?_)
    refine m_val rfl ?_ (v_build (vs := MsgQ.enc { kind := 3, src := 0, dst := k, term := 0, index := nx - 1, logTerm := (if R.log.p.endI < nx - 1 then 0 else R.log.p.termAt (nx - 1)), commit := R.commit, round := R.round, ok := false, ents := x, pos := 0, data := noB, done := false }))
    (first | (refine m_eff rfl ?_ e_buildSlice1; rintro _ _ ⟨bz, rfl, rfl⟩; refine m_go ?_) | (refine m_eff rfl ?_ e_buildSlice0; rintro _ _ ⟨bz, rfl, rfl⟩; refine m_go ?_) | (refine m_eff rfl ?_ e_buildSliceN; rintro _ _ ⟨bz, rfl, rfl⟩; refine m_go ?_))
    (refine m_eff rfl ?_ (e_callO (rowE x :: stepB b R out u) rfl rfl fun w hw hb => (haveI := Sl.blk1 (hw := hw) (s := 13) (enc := MsgQ.enc) (w := w) (Bs := rowE x :: stepB b R out u) (g := bz) { kind := 3, src := 0, dst := k, term := 0, index := nx - 1, logTerm := (if R.log.p.endI < nx - 1 then 0 else R.log.p.termAt (nx - 1)), commit := R.commit, round := R.round, ok := false, ents := x, pos := 0, data := noB, done := false }; say_m b bz R out { kind := 3, src := 0, dst := k, term := 0, index := nx - 1, logTerm := (if R.log.p.endI < nx - 1 then 0 else R.log.p.termAt (nx - 1)), commit := R.commit, round := R.round, ok := false, ents := x, pos := 0, data := noB, done := false } u w hb (by omega))); rintro _ _ ⟨_, ⟨rfl, o', ho', rfl⟩, rfl⟩; simp only [List.cons_append, List.nil_append]; refine m_go ?_)
    repeat (first | refine St.imp ?_ | (refine st_seq ?_; intro K hK) | refine st_t ?_ | refine st_f ?_ | refine st_miss ?_)
    first | refine a_retP (stepB b R o' u) Try.results23 ?_ | refine a_endP (stepB b R o' u) Try.results23 ?_
    exact ⟨rfl, o', by rw [ho', List.map_append, hm x hxl]; rfl, rfl⟩
end Go.Proofs.Ytaclpbkbjmbceaa

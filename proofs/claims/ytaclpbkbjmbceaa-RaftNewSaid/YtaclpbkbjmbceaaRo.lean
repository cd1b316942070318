/-
  RAFT: how a step begins, what is told of it.
-/
import Derived.Test.YtaclpbkbjmbceaaRn
set_option linter.unusedVariables false
set_option linter.unusedSimpArgs false
set_option maxRecDepth 100000
set_option maxHeartbeats 4000000
namespace Go.Proofs.Ytaclpbkbjmbceaa
open Go.Eng
abbrev nilM : At MsgQ := ⟨[], none, 0⟩
theorem raftAt_rows {w0 w : World} {F0 : Nat → Prop} {As Rs : List Atom} {R : RaftQ} (hw : HeapOK w0 F0 As w) (hp : PickC As R.rows Rs) (hs : SmallQ R) : RaftAt w (fpAll []) R := by
  have h : HeapOK w0 F0 R.rows w := (hw.perm hp.h.perm).mono (List.pairwise_append.1 (hw.perm hp.h.perm).sep).1 fun B hB => List.mem_append_left _ hB
  haveI := h
  haveI : LenC R.log.ents.l := ⟨by have := hs.log; omega⟩
  haveI : LenC R.votes.l := ⟨by have := hs.votes; omega⟩
  haveI : LenC R.next.l := ⟨by have := hs.next; omega⟩
  haveI : LenC R.mtch.l := ⟨by have := hs.mtch; omega⟩
  haveI : LenC R.sent.l := ⟨by have := hs.sent; omega⟩
  haveI : LenC R.reads.l := ⟨by have := hs.reads; omega⟩
  refine ⟨⟨inferInstance⟩, inferInstance, inferInstance, inferInstance, inferInstance, ⟨inferInstance, fun x hx => ?_⟩⟩
  obtain ⟨j, hj⟩ := List.getElem?_of_mem hx
  have h2 : HeapOK w0 F0 (acksA R.reads.l :: [rowE R.log.ents, rowI R.votes, rowI R.next, rowI R.mtch, rowI R.sent, rowR R.reads]) w := h.perm (by
    exact (List.perm_append_comm (l₁ := [rowE R.log.ents, rowI R.votes, rowI R.next, rowI R.mtch, rowI R.sent, rowR R.reads]) (l₂ := [acksA R.reads.l])))
  have h3 := HeapOK.many_out (f := fun x : ReadQ => rowI x.acks) hj h2
  haveI := h3
  haveI : LenC x.acks.l := ⟨by have := hs.acks x hx; omega⟩
  exact sl_row
theorem setL_app : ∀ (vs cs pre post : List Value), cs.length = vs.length → setL (pre ++ (cs ++ post)) pre.length vs = pre ++ (vs ++ post)
  | [], cs, pre, post, h => by simp [setL, List.eq_nil_of_length_eq_zero h]
  | v :: vs, [], pre, post, h => by simp at h
  | v :: vs, c :: cs, pre, post, h => by
    have e1 : (pre ++ (c :: cs ++ post)).set pre.length v = (pre ++ [v]) ++ (cs ++ post) := by simp
    have e2 := setL_app vs cs (pre ++ [v]) post (by simpa using h)
    rw [setL, e1, show pre.length + 1 = (pre ++ [v]).length by simp, e2]
    simp
theorem fill_head {s : Nat} {r : List (Nat × Nat)} {vs z z2 : List Value} (h1 : vs.length = s) (h2 : z.length = s) : fillL ((0, s) :: r) (z ++ z2) [(0, .agg vs.toArray)] = some (vs ++ z2) := by
  have e := setL_app vs z [] z2 (by rw [h1, h2])
  simp only [List.nil_append, List.length_nil] at e
  have e2 : (Nat.beq vs.length s && Nat.ble (0 + s) (z ++ z2).length) = true := by
    simp only [Bool.and_eq_true, Nat.beq_eq, Nat.ble_eq, List.length_append]
    omega
  simp only [fillL, List.getElem?_cons_zero, Value.cells, List.toList_toArray, e2, cond_true, e]
theorem begin_m (R : RaftQ) (w : World) [hR : RaftAt w (fpAll []) R] (hs : SmallQ R) : Meets Try.prog 20 [.agg R.enc.toArray] w (fpAll []) (fun v As => ∃ (b : Nat) (R' : RaftQ), R'.p = R.p ∧ v = ptrB b ∧ As = stepA b R' nilM 62) := by
  refine enter tysOK Try.func20 rfl Try.ntmps20 rfl (HeapOK.start w) ?_
  repeat (first | refine St.imp ?_ | (refine st_seq ?_; intro K hK) | refine st_t ?_ | refine st_f ?_ | refine st_miss ?_)
  (refine a_eff ?_ (e_box); rintro _ _ ⟨b1, rfl, rfl⟩)
  refine a_val ?_ v_assign
  repeat (first | refine St.imp ?_ | (refine st_seq ?_; intro K hK) | refine st_t ?_ | refine st_f ?_ | refine st_miss ?_)
  refine a_val ?_ (v_loadA (vs := R.enc))
  (refine a_eff ?_ (e_callN rfl rfl fun w hw => own_m R w hs); rintro _ _ ⟨_, ⟨R', hp, rfl, rfl⟩, rfl⟩; simp only [List.cons_append, List.nil_append])
  refine a_val ?_ ((v_build (vs := R'.enc ++ []) (hf := fill_head (s := 22) (z := zeroR) (z2 := []) rfl rfl)))
  refine a_val ?_ ((v_build (vs := R'.enc ++ [nilM.v]) (hf := fill_head (s := 22) (z := zeroR) (z2 := [nilM.v]) rfl rfl)))
  (refine a_eff ?_ ((e_box (cs := R'.enc ++ [nilM.v]) (hc := rfl))); rintro _ _ ⟨b, rfl, rfl⟩)
  refine a_val ?_ v_assign
  repeat (first | refine St.imp ?_ | (refine st_seq ?_; intro K hK) | refine st_t ?_ | refine st_f ?_ | refine st_miss ?_)
  refine tk_ent (Go.Eng.Ent.many_nil.trans (Go.Eng.Ent.nilrow 78 13)) ?_
  refine tk_ent (Bs := [.blk b (R'.enc ++ [nilM.v]) 62, .row (.slice none 0 0) 78 13 [], many [], rowE R'.log.ents, rowI R'.votes, rowI R'.next, rowI R'.mtch, rowI R'.sent, rowR R'.reads, acksA R'.reads.l]) Go.Eng.Ent.pickC ?_
  refine a_castK (Cs := stepA b R' nilM 62) ?_ rfl
  first | refine a_retP (stepA b R' nilM 62) Try.results20 ?_ | refine a_endP (stepA b R' nilM 62) Try.results20 ?_
  exact ⟨b, R', hp, rfl, rfl⟩
theorem told_m (b : Nat) (R : RaftQ) (out : At MsgQ) (u : TypeId) (w : World) (hb : HeapOK w (fpAll (stepA b R out u)) (stepA b R out u) w) (hs : SmallQ R) : Meets Try.prog 24 [ptrB b] w (fpAll (stepA b R out u)) (fun v As => ∃ R' : RaftQ, R'.p = R.p ∧ v = .tuple #[.agg R'.enc.toArray, out.v, .int .i64 0] ∧ As = [rowM out, entsA out.l, rowE R'.log.ents, rowI R'.votes, rowI R'.next, rowI R'.mtch, rowI R'.sent, rowR R'.reads, acksA R'.reads.l]) := by
  refine enter tysOK Try.func24 rfl Try.ntmps24 rfl (hb) ?_
  repeat (first | refine St.imp ?_ | (refine st_seq ?_; intro K hK) | refine st_t ?_ | refine st_f ?_ | refine st_miss ?_)
  (refine a_eff ?_ (e_alloc); rintro _ _ ⟨b2, rfl, rfl⟩)
  refine a_val ?_ v_assign
  refine a_val ?_ v_assign
  repeat (first | refine St.imp ?_ | (refine st_seq ?_; intro K hK) | refine st_t ?_ | refine st_f ?_ | refine st_miss ?_)
  refine a_mixC [] [0, 1, 2, 3, 4, 5, 6, 7, 8, 9, 10, 11, 12] [blkR b R [out.v] u] ?_
  refine m_val rfl ?_ v_move
  (first | refine m_val rfl ?_ v_nilCheck | refine m_val rfl ?_ v_nilCheckF)
  (first | refine m_val rfl ?_ v_field | refine m_val rfl ?_ v_fieldE | refine m_val rfl ?_ v_field0)
  (first | refine m_val rfl ?_ v_field | refine m_val rfl ?_ v_fieldE | refine m_val rfl ?_ v_field0)
  refine m_val rfl ?_ (v_loadA (vs := R.enc))
  (refine m_eff rfl ?_ (e_callN rfl rfl fun w hw => (haveI := raftAt_rows (R := R) hw inferInstance hs; own_m R w hs)); rintro _ _ ⟨_, ⟨R', hp, rfl, rfl⟩, rfl⟩; simp only [List.cons_append, List.nil_append]; refine m_go ?_)
  refine m_val rfl ?_ v_move
  (first | refine m_val rfl ?_ v_nilCheck | refine m_val rfl ?_ v_nilCheckF)
  (first | refine m_val rfl ?_ v_field | refine m_val rfl ?_ v_fieldE | refine m_val rfl ?_ v_field0)
  (first | refine m_val rfl ?_ v_load | refine m_val rfl ?_ v_loadA)
  (refine m_effn rfl ?_ ((e_storeW (vs := R'.enc))); rintro _ _ rfl; refine m_go ?_)
  refine m_val rfl ?_ v_assign
  refine m_val rfl ?_ v_assign
  repeat (first | refine St.imp ?_ | (refine st_seq ?_; intro K hK) | refine st_t ?_ | refine st_f ?_ | refine st_miss ?_)
  first | refine a_retP [rowM out, entsA out.l, rowE R'.log.ents, rowI R'.votes, rowI R'.next, rowI R'.mtch, rowI R'.sent, rowR R'.reads, acksA R'.reads.l] Try.results24 ?_ | refine a_endP [rowM out, entsA out.l, rowE R'.log.ents, rowI R'.votes, rowI R'.next, rowI R'.mtch, rowI R'.sent, rowR R'.reads, acksA R'.reads.l] Try.results24 ?_
  exact ⟨R', hp, rfl, rfl⟩
end Go.Proofs.Ytaclpbkbjmbceaa

/-
  RAFT: one stands for election.
-/
import Derived.Test.YtaclpbkbjmbceaaRk
set_option linter.unusedVariables false
set_option linter.unusedSimpArgs false
set_option maxRecDepth 100000
set_option maxHeartbeats 4000000
namespace Go.Proofs.Ytaclpbkbjmbceaa
open Go.Eng
theorem ent_blkRow {Γ : Ctx} {Rs : List Atom} {g : Nat} {cs : List Value} {u : TypeId} : Go.Eng.Ent Γ (.blk g cs u :: Rs) (.row (.slice (some ⟨g, 0, none⟩) 1 1) u cs.length [cs] :: Rs) := .mk fun w hw => hw.turn (by
  have h := hw.ok _ List.mem_cons_self
  refine ⟨⟨by simp, .inr ⟨g, 1, cs.toArray, rfl, Nat.zero_le _, h, Nat.le_refl _, by decide, by simp, by simp⟩⟩, fun c hc => by rw [List.mem_singleton.1 hc]⟩) fun k hk => by
    have hk : some g = some k := hk
    cases hk
    rfl
theorem ent_cell2 {Γ : Ctx} {As Rs : List Atom} {bx b q : Nat} {cx cs : List Value} {ux u : TypeId} {v : Value} [hx : BlkC As bx cx ux] [hr : BlkC As b cs u] [hp : PickC As [.blk b cs u, .blk bx cx ux] Rs] (hc : cs[q]? = some v := by exact rfl) : Go.Eng.Ent Γ As [cellG b q v, .blk bx cx ux] :=
  (Go.Eng.Ent.pick hp.h).trans (.mk fun w hw => hw.cellG hc)
theorem enough_m (b : Nat) (R : RaftQ) (out : At MsgQ) (u : TypeId) (w : World) (hb : HeapOK w (fpAll (stepA b R out u)) (stepA b R out u) w) (hlog : logB R.p.log = true) (hn : 1 ≤ R.nodes ∧ R.nodes ≤ 7) (hid : 1 ≤ R.id ∧ R.id ≤ R.nodes) (ht : numB R.p.term = true) (hle : R.p.log.endT ≤ R.p.term) (hsz : R.snap.size ≤ 1099511627776) (hlen : out.l.length ≤ 900) (hreads : R.reads.l = []) (hv : R.votes.l.length ≤ 1000) :
    Meets Try.prog 35 [ptrB b] w (fpAll (stepA b R out u)) (fun v As => v = .tuple #[] ∧ ∃ (R' : RaftQ) (o' : At MsgQ), (R'.p, o'.l.map MsgQ.p) = winsF (R.p, out.l.map MsgQ.p) ∧ As = stepA b R' o' u) := by
  have hlv : LenC R.votes.l := ⟨by omega⟩
  refine enter tysOK Try.func35 rfl Try.ntmps35 rfl (hb) ?_
  repeat (first | refine St.imp ?_ | (refine st_seq ?_; intro K hK) | refine st_t ?_ | refine st_f ?_ | refine st_miss ?_)
  refine a_mix [0, 1, 2, 3, 4, 5, 6, 7, 8, 9, 10, 11, 12] ?_
  refine m_val rfl ?_ v_move
  (first | refine m_val rfl ?_ v_nilCheck | refine m_val rfl ?_ v_nilCheckF)
  (first | refine m_val rfl ?_ v_field | refine m_val rfl ?_ v_fieldE | refine m_val rfl ?_ v_field0)
  (first | refine m_val rfl ?_ v_field | refine m_val rfl ?_ v_fieldE | refine m_val rfl ?_ v_field0)
  (first | refine m_val rfl ?_ v_field | refine m_val rfl ?_ v_fieldE | refine m_val rfl ?_ v_field0)
  (first | refine m_val rfl ?_ v_load | refine m_val rfl ?_ v_loadA)
  refine m_val rfl ?_ v_move
  (first | refine m_val rfl ?_ v_nilCheck | refine m_val rfl ?_ v_nilCheckF)
  (first | refine m_val rfl ?_ v_field | refine m_val rfl ?_ v_fieldE | refine m_val rfl ?_ v_field0)
  (first | refine m_val rfl ?_ v_field | refine m_val rfl ?_ v_fieldE | refine m_val rfl ?_ v_field0)
  (first | refine m_val rfl ?_ v_field | refine m_val rfl ?_ v_fieldE | refine m_val rfl ?_ v_field0)
  (first | refine m_val rfl ?_ v_load | refine m_val rfl ?_ v_loadA)
  (refine m_eff rfl ?_ (e_callP rfl rfl fun w hw => most_m R.nodes R.votes.l R.votes.a R.votes.c w (by omega)); rintro _ _ ⟨rfl, rfl⟩; refine m_go ?_)
  repeat (first | refine St.imp ?_ | (refine st_seq ?_; intro K hK) | refine st_t ?_ | refine st_f ?_ | refine st_miss ?_)
  refine a_cond (fun hc => ?_) (fun hc => ?_)
  · repeat (first | refine St.imp ?_ | (refine st_seq ?_; intro K hK) | refine st_t ?_ | refine st_f ?_ | refine st_miss ?_)
    refine a_val ?_ v_move
    (refine a_eff ?_ (e_callO (stepA b R out u) rfl rfl fun w hw hb => lead_m b R out u w hb hlog hn hid ht hle hsz hlen hreads); rintro _ _ ⟨_, ⟨rfl, R', o', hp, rfl⟩, rfl⟩; simp only [List.cons_append, List.nil_append])
    repeat (first | refine St.imp ?_ | (refine st_seq ?_; intro K hK) | refine st_t ?_ | refine st_f ?_ | refine st_miss ?_)
    first | refine a_retP (stepA b R' o' u) Try.results35 ?_ | refine a_endP (stepA b R' o' u) Try.results35 ?_
    exact ⟨rfl, R', o', by rw [hp]; exact (if_pos hc).symm, rfl⟩
  · repeat (first | refine St.imp ?_ | (refine st_seq ?_; intro K hK) | refine st_t ?_ | refine st_f ?_ | refine st_miss ?_)
    first | refine a_retP (stepA b R out u) Try.results35 ?_ | refine a_endP (stepA b R out u) Try.results35 ?_
    exact ⟨rfl, R, out, (if_neg (by rw [show enoughB (R.p, out.l.map MsgQ.p).1.nodes (R.p, out.l.map MsgQ.p).1.votes = false from hc]; decide)).symm, rfl⟩
theorem stand1_m (b bx ba bb : Nat) (R : RaftQ) (out : At MsgQ) (u : TypeId) (k i t : Int) (w : World) (hb : HeapOK w (fpAll (stepB b R out u)) (stepB b R out u) w) [h1 : Sl w (fpAll (stepB b R out u)) (fun v : Value => [v]) 1 [ptrB b] (some ⟨bx, 0, none⟩) 1] [h2 : Sl w (fpAll (stepB b R out u)) (fun v : Value => [v]) 1 [Value.int .i64 i] (some ⟨ba, 0, none⟩) 1] [h3 : Sl w (fpAll (stepB b R out u)) (fun v : Value => [v]) 1 [Value.int .i64 t] (some ⟨bb, 0, none⟩) 1] (hlen : out.l.length ≤ 2000) :
    Meets Try.prog 33 [.int .i64 k, .pointer (some ⟨bx, 0, none⟩), .pointer (some ⟨ba, 0, none⟩), .pointer (some ⟨bb, 0, none⟩)] w (fpAll (stepB b R out u)) (fun v As => v = .tuple #[] ∧ ∃ o' : At MsgQ, o'.l.map MsgQ.p = out.l.map MsgQ.p ++ [R.p.say { Msg.zero with kind := 1, dst := k, index := i, logTerm := t }] ∧ As = stepB b R o' u) := by
  refine enter tysOK Try.func33 rfl Try.ntmps33 rfl (hb) ?_
  refine tc_ent (Bs := rowE nilE :: stepB b R out u) (Go.Eng.Ent.nilrow 68 3) ?_
  repeat (first | refine St.imp ?_ | (refine st_seq ?_; intro K hK) | refine st_t ?_ | refine st_f ?_ | refine st_miss ?_)
  refine a_val ?_ ((v_loadE0 (A := some ⟨bx, 0, none⟩) (s := 1) (l := [ptrB b]) (enc := fun v : Value => [v]) (j := 0) rfl))
  refine a_val ?_ v_move
  refine a_val ?_ ((v_loadE0 (A := some ⟨ba, 0, none⟩) (s := 1) (l := [Value.int .i64 i]) (enc := fun v : Value => [v]) (j := 0) rfl))
  refine a_val ?_ ((v_loadE0 (A := some ⟨bb, 0, none⟩) (s := 1) (l := [Value.int .i64 t]) (enc := fun v : Value => [v]) (j := 0) rfl))
  refine a_val ?_ (v_build (vs := MsgQ.enc { kind := 1, src := 0, dst := k, term := 0, index := i, logTerm := t, commit := 0, round := 0, ok := false, ents := nilE, pos := 0, data := noB, done := false }))
  (first | (refine a_eff ?_ e_buildSlice1; rintro _ _ ⟨bz, rfl, rfl⟩) | (refine a_eff ?_ e_buildSlice0; rintro _ _ ⟨bz, rfl, rfl⟩) | (refine a_eff ?_ e_buildSliceN; rintro _ _ ⟨bz, rfl, rfl⟩))
  (refine a_eff ?_ (e_callO (rowE nilE :: stepB b R out u) rfl rfl fun w hw hb => (haveI := Sl.blk1 (hw := hw) (s := 13) (enc := MsgQ.enc) (w := w) (Bs := rowE nilE :: stepB b R out u) (g := bz) { kind := 1, src := 0, dst := k, term := 0, index := i, logTerm := t, commit := 0, round := 0, ok := false, ents := nilE, pos := 0, data := noB, done := false }; say_m b bz R out { kind := 1, src := 0, dst := k, term := 0, index := i, logTerm := t, commit := 0, round := 0, ok := false, ents := nilE, pos := 0, data := noB, done := false } u w hb (by omega))); rintro _ _ ⟨_, ⟨rfl, o', ho', rfl⟩, rfl⟩; simp only [List.cons_append, List.nil_append])
  repeat (first | refine St.imp ?_ | (refine st_seq ?_; intro K hK) | refine st_t ?_ | refine st_f ?_ | refine st_miss ?_)
  first | refine a_retP (stepB b R o' u) Try.results33 ?_ | refine a_endP (stepB b R o' u) Try.results33 ?_
  exact ⟨rfl, o', by rw [ho', List.map_append]; rfl, rfl⟩
abbrev standQ (R : RaftQ) (g : Nat) : RaftQ := ⟨R.id, R.nodes, 1, R.term + 1, R.id, 0, R.log, R.snap, R.commit, R.elapsed, R.timeout, R.seed, ⟨[R.id], some ⟨g, 0, none⟩, 1⟩, R.next, R.mtch, R.sent, R.round, R.reads, R.part, R.partOf⟩
abbrev standQ3 (R : RaftQ) (g : Nat) : RaftQ := ⟨R.id, R.nodes, 1, R.term + 1, R.id, 0, R.log, R.snap, R.commit, 0, 10 + (nextU R.seed).tmod 10, nextU R.seed, ⟨[R.id], some ⟨g, 0, none⟩, 1⟩, R.next, R.mtch, R.sent, R.round, R.reads, noB, 0⟩
theorem stand_p (R : RaftQ) (g : Nat) (hal : R.next.l = [] ∧ R.mtch.l = [] ∧ R.sent.l = [] ∧ R.reads.l = []) : RaftQ.p (standQ3 R g) = R.p.stands := by
  simp only [RaftQ.p, Raft.stands, Raft.forget, Raft.draw, Raft.alone, hal.1, hal.2.1, hal.2.2.1, hal.2.2.2, List.map_nil]
theorem all_len (R : Raft) (g : Int → List Msg) (hg : ∀ k, (g k).length ≤ 1) (hn : 1 ≤ R.nodes ∧ R.nodes ≤ 7) : (R.all g).length ≤ 7 := by
  have := others_len R g hg R.nodes.toNat 1
  unfold Raft.all
  omega
theorem stand_m (b : Nat) (R : RaftQ) (out : At MsgQ) (u : TypeId) (w : World) (hb : HeapOK w (fpAll (stepA b R out u)) (stepA b R out u) w) (hlog : logB R.p.log = true) (hn : 1 ≤ R.nodes ∧ R.nodes ≤ 7) (hid : 1 ≤ R.id ∧ R.id ≤ R.nodes) (ht : numB R.p.term = true) (hle : R.p.log.endT ≤ R.p.term) (hsz : R.snap.size ≤ 1099511627776) (hout : out.l = []) (hal : R.next.l = [] ∧ R.mtch.l = [] ∧ R.sent.l = [] ∧ R.reads.l = []) :
    Meets Try.prog 21 [ptrB b] w (fpAll (stepA b R out u)) (fun v As => v = .tuple #[] ∧ ∃ (R' : RaftQ) (o' : At MsgQ), (R'.p, o'.l.map MsgQ.p) = standF R.p ∧ As = stepA b R' o' u) := by
  have htm : 0 ≤ R.term ∧ R.term ≤ 1099511627775 := by simpa [numB] using ht
  have hlc : LenC R.log.ents.l := ⟨by have h := hlog; simp [logB] at h; have := h.2.2.2.1; omega⟩
  refine enter tysOK Try.func21 rfl Try.ntmps21 rfl (hb) ?_
  repeat (first | refine St.imp ?_ | (refine st_seq ?_; intro K hK) | refine st_t ?_ | refine st_f ?_ | refine st_miss ?_)
  (refine a_eff ?_ e_box; rintro _ _ ⟨bz, rfl, rfl⟩)
  repeat (first | refine St.imp ?_ | (refine st_seq ?_; intro K hK) | refine st_t ?_ | refine st_f ?_ | refine st_miss ?_)
  rename Nat => bx
  repeat (first | refine St.imp ?_ | (refine st_seq ?_; intro K hK) | refine st_t ?_ | refine st_f ?_ | refine st_miss ?_)
  (first | refine a_val ?_ v_load | refine a_val ?_ v_loadA)
  (first | refine a_val ?_ v_nilCheck | refine a_val ?_ v_nilCheckF)
  (first | refine a_val ?_ v_field | refine a_val ?_ v_fieldE | refine a_val ?_ v_field0)
  (first | refine a_val ?_ v_field | refine a_val ?_ v_fieldE | refine a_val ?_ v_field0)
  (first | refine a_val ?_ v_field | refine a_val ?_ v_fieldE | refine a_val ?_ v_field0)
  (first | refine a_val ?_ v_load | refine a_val ?_ v_loadA)
  (first | refine a_val ?_ v_eql | refine a_val ?_ v_seql | refine a_val ?_ v_beql | refine a_val ?_ v_isNil)
  repeat (first | refine St.imp ?_ | (refine st_seq ?_; intro K hK) | refine st_t ?_ | refine st_f ?_ | refine st_miss ?_)
  refine a_cond (fun hc => ?_) (fun hc => ?_)
  · have hc : R.term = 1099511627775 := by simpa using hc
    repeat (first | refine St.imp ?_ | (refine st_seq ?_; intro K hK) | refine st_t ?_ | refine st_f ?_ | refine st_miss ?_)
    (first | refine a_val ?_ v_load | refine a_val ?_ v_loadA)
    (first | refine a_val ?_ v_nilCheck | refine a_val ?_ v_nilCheckF)
    (first | refine a_val ?_ v_field | refine a_val ?_ v_fieldE | refine a_val ?_ v_field0)
    (refine a_eff ?_ (e_callO [blkR b R [out.v] u] rfl rfl fun w hw hb => draw_m b R [out.v] u w hb); rintro _ _ ⟨_, ⟨rfl, rfl⟩, rfl⟩; simp only [List.cons_append, List.nil_append])
    repeat (first | refine St.imp ?_ | (refine st_seq ?_; intro K hK) | refine st_t ?_ | refine st_f ?_ | refine st_miss ?_)
    first | refine a_retP (stepA b { R with seed := nextU R.seed, timeout := 10 + (nextU R.seed).tmod 10, elapsed := 0 } out u) Try.results21 ?_ | refine a_endP (stepA b { R with seed := nextU R.seed, timeout := 10 + (nextU R.seed).tmod 10, elapsed := 0 } out u) Try.results21 ?_
    refine ⟨rfl, _, _, ?_, rfl⟩
    rw [standF, if_pos hc, hout]
    rfl
  have hc : ¬ R.term = 1099511627775 := by simpa using hc
  repeat (first | refine St.imp ?_ | (refine st_seq ?_; intro K hK) | refine st_t ?_ | refine st_f ?_ | refine st_miss ?_)
  repeat (first | refine St.imp ?_ | (refine st_seq ?_; intro K hK) | refine st_t ?_ | refine st_f ?_ | refine st_miss ?_)
  (first | refine a_val ?_ v_load | refine a_val ?_ v_loadA)
  (first | refine a_val ?_ v_nilCheck | refine a_val ?_ v_nilCheckF)
  (first | refine a_val ?_ v_field | refine a_val ?_ v_fieldE | refine a_val ?_ v_field0)
  (first | refine a_val ?_ v_field | refine a_val ?_ v_fieldE | refine a_val ?_ v_field0)
  (first | refine a_val ?_ v_field | refine a_val ?_ v_fieldE | refine a_val ?_ v_field0)
  (first | refine a_val ?_ v_load | refine a_val ?_ v_loadA)
  (first | refine a_val ?_ v_add | refine a_val ?_ v_cat)
  (first | refine a_val ?_ v_nilCheck | refine a_val ?_ v_nilCheckF)
  (first | refine a_val ?_ v_field | refine a_val ?_ v_fieldE | refine a_val ?_ v_field0)
  (first | refine a_val ?_ v_field | refine a_val ?_ v_fieldE | refine a_val ?_ v_field0)
  (first | refine a_val ?_ v_field | refine a_val ?_ v_fieldE | refine a_val ?_ v_field0)
  (first | (refine a_effn ?_ e_store; rintro _ _ rfl) | (refine a_effn ?_ e_storeW; rintro _ _ rfl) | (refine a_effn ?_ e_storeA; rintro _ _ rfl))
  repeat (first | refine St.imp ?_ | (refine st_seq ?_; intro K hK) | refine st_t ?_ | refine st_f ?_ | refine st_miss ?_)
  repeat (first | refine St.imp ?_ | (refine st_seq ?_; intro K hK) | refine st_t ?_ | refine st_f ?_ | refine st_miss ?_)
  refine a_moA #[0, 0, 0, 0, 0, 16, 48, 112, 240, 496, 0, 1024, 3072, 7168, 15360, 31744, 64512, 65521, 196593, 458737, 983025, 2031601, 4128755, 8323059, 16711667, 33488883, 67043315, 134152183, 268369911, 536805367, 1073676279, 2147418103, 4294967295, 8589934591, 17179869183, 34359738367, 68719476735] [] (.pre [0, 1, 2, 3, 4, 10, 5, 11, 6, 12, 7, 13, 8, 14, 9, 15, 17, 18, 19, 20] (.fork (.pre [16] (.pre [21] (.pre [22, 23, 24, 25, 26] (.pre [27, 28, 29, 30, 31] (.pre [32, 33, 34, 35, 36] .nil))))) (.pre [21] (.pre [22, 23, 24, 25] (.fork (.pre [16] (.pre [26] (.pre [27, 28, 29, 30, 31] (.pre [32, 33, 34, 35, 36] .nil)))) (.pre [26] (.pre [27, 28, 29, 30] (.fork (.pre [16] (.pre [31] (.pre [32, 33, 34, 35, 36] .nil))) (.pre [31] (.pre [16] (.pre [32, 33, 34, 35, 36] .nil))))))))))) [cellG b 0 (.int .i64 R.id), .blk bx [ptrB b] 59] (ent_cell2) ?_
  refine mo_join (σ := Nat) (fun _ => [(1, .pointer (some ⟨bx, 0, none⟩))]) (fun s => [blkR b (standQ R s) [out.v] u, .blk s [.int .i64 R.id] 3, .blk bx [ptrB b] 59, rowM out, entsA out.l, rowE R.log.ents, rowI R.next, rowI R.mtch, rowI R.sent, rowR R.reads, acksA R.reads.l]) (fun _ => True) .nil _ (fun J => ?_) ?_
  · refine mo_pre ?_
    (first | refine m_val rfl ?_ v_load | refine m_val rfl ?_ v_loadA)
    (first | refine m_val rfl ?_ v_load | refine m_val rfl ?_ v_loadA)
    (first | refine m_val rfl ?_ v_load | refine m_val rfl ?_ v_loadA)
    (first | refine m_val rfl ?_ v_load | refine m_val rfl ?_ v_loadA)
    (first | refine m_val rfl ?_ v_load | refine m_val rfl ?_ v_loadA)
    (first | refine m_val rfl ?_ v_load | refine m_val rfl ?_ v_loadA)
    (first | refine m_val rfl ?_ v_nilCheck | refine m_val rfl ?_ v_nilCheckF)
    (first | refine m_val rfl ?_ v_nilCheck | refine m_val rfl ?_ v_nilCheckF)
    (first | refine m_val rfl ?_ v_field | refine m_val rfl ?_ v_fieldE | refine m_val rfl ?_ v_field0)
    (first | refine m_val rfl ?_ v_field | refine m_val rfl ?_ v_fieldE | refine m_val rfl ?_ v_field0)
    (first | refine m_val rfl ?_ v_field | refine m_val rfl ?_ v_fieldE | refine m_val rfl ?_ v_field0)
    (first | refine m_val rfl ?_ v_field | refine m_val rfl ?_ v_fieldE | refine m_val rfl ?_ v_field0)
    (first | refine m_val rfl ?_ v_field | refine m_val rfl ?_ v_fieldE | refine m_val rfl ?_ v_field0)
    (first | refine m_val rfl ?_ v_field | refine m_val rfl ?_ v_fieldE | refine m_val rfl ?_ v_field0)
    refine m_val rfl ?_ ((v_loadE0 (A := some ⟨b, 0, none⟩) (s := 1) (l := [Value.int .i64 R.id]) (enc := fun v => [v]) (j := 0) rfl))
    refine m_val rfl ?_ ((v_loadE0 (A := some ⟨b, 0, none⟩) (s := 1) (l := [Value.int .i64 R.id]) (enc := fun v => [v]) (j := 0) rfl))
    (first | refine m_val rfl ?_ v_nilCheck | refine m_val rfl ?_ v_nilCheckF)
    (first | refine m_val rfl ?_ v_field | refine m_val rfl ?_ v_fieldE | refine m_val rfl ?_ v_field0)
    (first | refine m_val rfl ?_ v_field | refine m_val rfl ?_ v_fieldE | refine m_val rfl ?_ v_field0)
    (first | refine m_val rfl ?_ v_field | refine m_val rfl ?_ v_fieldE | refine m_val rfl ?_ v_field0)
    refine St.imp ?_
    refine mo_fork ?_ ?_
    · refine mo_pre ?_
      (refine m_eff rfl ?_ (e_buildSlice1); rintro _ _ ⟨gv, rfl, rfl⟩; refine m_go ?_ (hE := by first | exact fun h => absurd h (by decide) | exact fun _ => Ent.refl | exact fun _ => ent_cell2))
      refine St.imp ?_
      refine mo_pre ?_
      (first | (refine m_effn rfl ?_ e_store; rintro _ _ rfl; refine m_go ?_ (hE := by first | exact fun h => absurd h (by decide) | exact fun _ => Ent.refl | exact fun _ => ent_cell2)) | (refine m_effn rfl ?_ e_storeW; rintro _ _ rfl; refine m_go ?_ (hE := by first | exact fun h => absurd h (by decide) | exact fun _ => Ent.refl | exact fun _ => ent_cell2)) | (refine m_effn rfl ?_ e_storeA; rintro _ _ rfl; refine m_go ?_ (hE := by first | exact fun h => absurd h (by decide) | exact fun _ => Ent.refl | exact fun _ => ent_cell2)))
      refine St.imp ?_
      refine mo_pre ?_
      (first | refine m_val rfl ?_ v_nilCheck | refine m_val rfl ?_ v_nilCheckF)
      (first | refine m_val rfl ?_ v_field | refine m_val rfl ?_ v_fieldE | refine m_val rfl ?_ v_field0)
      (first | refine m_val rfl ?_ v_field | refine m_val rfl ?_ v_fieldE | refine m_val rfl ?_ v_field0)
      (first | refine m_val rfl ?_ v_field | refine m_val rfl ?_ v_fieldE | refine m_val rfl ?_ v_field0)
      (first | (refine m_effn rfl ?_ e_store; rintro _ _ rfl; refine m_go ?_ (hE := by first | exact fun h => absurd h (by decide) | exact fun _ => Ent.refl | exact fun _ => ent_cell2)) | (refine m_effn rfl ?_ e_storeW; rintro _ _ rfl; refine m_go ?_ (hE := by first | exact fun h => absurd h (by decide) | exact fun _ => Ent.refl | exact fun _ => ent_cell2)) | (refine m_effn rfl ?_ e_storeA; rintro _ _ rfl; refine m_go ?_ (hE := by first | exact fun h => absurd h (by decide) | exact fun _ => Ent.refl | exact fun _ => ent_cell2)))
      refine St.imp ?_
      refine mo_pre ?_
      (first | refine m_val rfl ?_ v_nilCheck | refine m_val rfl ?_ v_nilCheckF)
      (first | refine m_val rfl ?_ v_field | refine m_val rfl ?_ v_fieldE | refine m_val rfl ?_ v_field0)
      (first | refine m_val rfl ?_ v_field | refine m_val rfl ?_ v_fieldE | refine m_val rfl ?_ v_field0)
      (first | refine m_val rfl ?_ v_field | refine m_val rfl ?_ v_fieldE | refine m_val rfl ?_ v_field0)
      (first | (refine m_effn rfl ?_ e_store; rintro _ _ rfl; refine m_go ?_ (hE := by first | exact fun h => absurd h (by decide) | exact fun _ => Ent.refl | exact fun _ => ent_cell2)) | (refine m_effn rfl ?_ e_storeW; rintro _ _ rfl; refine m_go ?_ (hE := by first | exact fun h => absurd h (by decide) | exact fun _ => Ent.refl | exact fun _ => ent_cell2)) | (refine m_effn rfl ?_ e_storeA; rintro _ _ rfl; refine m_go ?_ (hE := by first | exact fun h => absurd h (by decide) | exact fun _ => Ent.refl | exact fun _ => ent_cell2)))
      refine St.imp ?_
      refine mo_pre ?_
      (first | refine m_val rfl ?_ v_nilCheck | refine m_val rfl ?_ v_nilCheckF)
      (first | refine m_val rfl ?_ v_field | refine m_val rfl ?_ v_fieldE | refine m_val rfl ?_ v_field0)
      (first | refine m_val rfl ?_ v_field | refine m_val rfl ?_ v_fieldE | refine m_val rfl ?_ v_field0)
      (first | refine m_val rfl ?_ v_field | refine m_val rfl ?_ v_fieldE | refine m_val rfl ?_ v_field0)
      (first | (refine m_effn rfl ?_ e_store; rintro _ _ rfl; refine m_go ?_ (hE := by first | exact fun h => absurd h (by decide) | exact fun _ => Ent.refl | exact fun _ => ent_cell2)) | (refine m_effn rfl ?_ e_storeW; rintro _ _ rfl; refine m_go ?_ (hE := by first | exact fun h => absurd h (by decide) | exact fun _ => Ent.refl | exact fun _ => ent_cell2)) | (refine m_effn rfl ?_ e_storeA; rintro _ _ rfl; refine m_go ?_ (hE := by first | exact fun h => absurd h (by decide) | exact fun _ => Ent.refl | exact fun _ => ent_cell2)))
      refine St.imp ?_
      exact a_weak (J gv trivial)
    · refine mo_pre ?_
      (first | (refine m_effn rfl ?_ e_store; rintro _ _ rfl; refine m_go ?_ (hE := by first | exact fun h => absurd h (by decide) | exact fun _ => Ent.refl | exact fun _ => ent_cell2)) | (refine m_effn rfl ?_ e_storeW; rintro _ _ rfl; refine m_go ?_ (hE := by first | exact fun h => absurd h (by decide) | exact fun _ => Ent.refl | exact fun _ => ent_cell2)) | (refine m_effn rfl ?_ e_storeA; rintro _ _ rfl; refine m_go ?_ (hE := by first | exact fun h => absurd h (by decide) | exact fun _ => Ent.refl | exact fun _ => ent_cell2)))
      refine St.imp ?_
      refine mo_pre ?_
      (first | refine m_val rfl ?_ v_nilCheck | refine m_val rfl ?_ v_nilCheckF)
      (first | refine m_val rfl ?_ v_field | refine m_val rfl ?_ v_fieldE | refine m_val rfl ?_ v_field0)
      (first | refine m_val rfl ?_ v_field | refine m_val rfl ?_ v_fieldE | refine m_val rfl ?_ v_field0)
      (first | refine m_val rfl ?_ v_field | refine m_val rfl ?_ v_fieldE | refine m_val rfl ?_ v_field0)
      refine St.imp ?_
      refine mo_fork ?_ ?_
      · refine mo_pre ?_
        (refine m_eff rfl ?_ (e_buildSlice1); rintro _ _ ⟨gv, rfl, rfl⟩; refine m_go ?_ (hE := by first | exact fun h => absurd h (by decide) | exact fun _ => Ent.refl | exact fun _ => ent_cell2))
        refine St.imp ?_
        refine mo_pre ?_
        (first | (refine m_effn rfl ?_ e_store; rintro _ _ rfl; refine m_go ?_ (hE := by first | exact fun h => absurd h (by decide) | exact fun _ => Ent.refl | exact fun _ => ent_cell2)) | (refine m_effn rfl ?_ e_storeW; rintro _ _ rfl; refine m_go ?_ (hE := by first | exact fun h => absurd h (by decide) | exact fun _ => Ent.refl | exact fun _ => ent_cell2)) | (refine m_effn rfl ?_ e_storeA; rintro _ _ rfl; refine m_go ?_ (hE := by first | exact fun h => absurd h (by decide) | exact fun _ => Ent.refl | exact fun _ => ent_cell2)))
        refine St.imp ?_
        refine mo_pre ?_
        (first | refine m_val rfl ?_ v_nilCheck | refine m_val rfl ?_ v_nilCheckF)
        (first | refine m_val rfl ?_ v_field | refine m_val rfl ?_ v_fieldE | refine m_val rfl ?_ v_field0)
        (first | refine m_val rfl ?_ v_field | refine m_val rfl ?_ v_fieldE | refine m_val rfl ?_ v_field0)
        (first | refine m_val rfl ?_ v_field | refine m_val rfl ?_ v_fieldE | refine m_val rfl ?_ v_field0)
        (first | (refine m_effn rfl ?_ e_store; rintro _ _ rfl; refine m_go ?_ (hE := by first | exact fun h => absurd h (by decide) | exact fun _ => Ent.refl | exact fun _ => ent_cell2)) | (refine m_effn rfl ?_ e_storeW; rintro _ _ rfl; refine m_go ?_ (hE := by first | exact fun h => absurd h (by decide) | exact fun _ => Ent.refl | exact fun _ => ent_cell2)) | (refine m_effn rfl ?_ e_storeA; rintro _ _ rfl; refine m_go ?_ (hE := by first | exact fun h => absurd h (by decide) | exact fun _ => Ent.refl | exact fun _ => ent_cell2)))
        refine St.imp ?_
        refine mo_pre ?_
        (first | refine m_val rfl ?_ v_nilCheck | refine m_val rfl ?_ v_nilCheckF)
        (first | refine m_val rfl ?_ v_field | refine m_val rfl ?_ v_fieldE | refine m_val rfl ?_ v_field0)
        (first | refine m_val rfl ?_ v_field | refine m_val rfl ?_ v_fieldE | refine m_val rfl ?_ v_field0)
        (first | refine m_val rfl ?_ v_field | refine m_val rfl ?_ v_fieldE | refine m_val rfl ?_ v_field0)
        (first | (refine m_effn rfl ?_ e_store; rintro _ _ rfl; refine m_go ?_ (hE := by first | exact fun h => absurd h (by decide) | exact fun _ => Ent.refl | exact fun _ => ent_cell2)) | (refine m_effn rfl ?_ e_storeW; rintro _ _ rfl; refine m_go ?_ (hE := by first | exact fun h => absurd h (by decide) | exact fun _ => Ent.refl | exact fun _ => ent_cell2)) | (refine m_effn rfl ?_ e_storeA; rintro _ _ rfl; refine m_go ?_ (hE := by first | exact fun h => absurd h (by decide) | exact fun _ => Ent.refl | exact fun _ => ent_cell2)))
        refine St.imp ?_
        exact a_weak (J gv trivial)
      · refine mo_pre ?_
        (first | (refine m_effn rfl ?_ e_store; rintro _ _ rfl; refine m_go ?_ (hE := by first | exact fun h => absurd h (by decide) | exact fun _ => Ent.refl | exact fun _ => ent_cell2)) | (refine m_effn rfl ?_ e_storeW; rintro _ _ rfl; refine m_go ?_ (hE := by first | exact fun h => absurd h (by decide) | exact fun _ => Ent.refl | exact fun _ => ent_cell2)) | (refine m_effn rfl ?_ e_storeA; rintro _ _ rfl; refine m_go ?_ (hE := by first | exact fun h => absurd h (by decide) | exact fun _ => Ent.refl | exact fun _ => ent_cell2)))
        refine St.imp ?_
        refine mo_pre ?_
        (first | refine m_val rfl ?_ v_nilCheck | refine m_val rfl ?_ v_nilCheckF)
        (first | refine m_val rfl ?_ v_field | refine m_val rfl ?_ v_fieldE | refine m_val rfl ?_ v_field0)
        (first | refine m_val rfl ?_ v_field | refine m_val rfl ?_ v_fieldE | refine m_val rfl ?_ v_field0)
        (first | refine m_val rfl ?_ v_field | refine m_val rfl ?_ v_fieldE | refine m_val rfl ?_ v_field0)
        refine St.imp ?_
        refine mo_fork ?_ ?_
        · refine mo_pre ?_
          (refine m_eff rfl ?_ (e_buildSlice1); rintro _ _ ⟨gv, rfl, rfl⟩; refine m_go ?_ (hE := by first | exact fun h => absurd h (by decide) | exact fun _ => Ent.refl | exact fun _ => ent_cell2))
          refine St.imp ?_
          refine mo_pre ?_
          (first | (refine m_effn rfl ?_ e_store; rintro _ _ rfl; refine m_go ?_ (hE := by first | exact fun h => absurd h (by decide) | exact fun _ => Ent.refl | exact fun _ => ent_cell2)) | (refine m_effn rfl ?_ e_storeW; rintro _ _ rfl; refine m_go ?_ (hE := by first | exact fun h => absurd h (by decide) | exact fun _ => Ent.refl | exact fun _ => ent_cell2)) | (refine m_effn rfl ?_ e_storeA; rintro _ _ rfl; refine m_go ?_ (hE := by first | exact fun h => absurd h (by decide) | exact fun _ => Ent.refl | exact fun _ => ent_cell2)))
          refine St.imp ?_
          refine mo_pre ?_
          (first | refine m_val rfl ?_ v_nilCheck | refine m_val rfl ?_ v_nilCheckF)
          (first | refine m_val rfl ?_ v_field | refine m_val rfl ?_ v_fieldE | refine m_val rfl ?_ v_field0)
          (first | refine m_val rfl ?_ v_field | refine m_val rfl ?_ v_fieldE | refine m_val rfl ?_ v_field0)
          (first | refine m_val rfl ?_ v_field | refine m_val rfl ?_ v_fieldE | refine m_val rfl ?_ v_field0)
          (first | (refine m_effn rfl ?_ e_store; rintro _ _ rfl; refine m_go ?_ (hE := by first | exact fun h => absurd h (by decide) | exact fun _ => Ent.refl | exact fun _ => ent_cell2)) | (refine m_effn rfl ?_ e_storeW; rintro _ _ rfl; refine m_go ?_ (hE := by first | exact fun h => absurd h (by decide) | exact fun _ => Ent.refl | exact fun _ => ent_cell2)) | (refine m_effn rfl ?_ e_storeA; rintro _ _ rfl; refine m_go ?_ (hE := by first | exact fun h => absurd h (by decide) | exact fun _ => Ent.refl | exact fun _ => ent_cell2)))
          refine St.imp ?_
          exact a_weak (J gv trivial)
        · refine mo_pre ?_
          (first | (refine m_effn rfl ?_ e_store; rintro _ _ rfl; refine m_go ?_ (hE := by first | exact fun h => absurd h (by decide) | exact fun _ => Ent.refl | exact fun _ => ent_cell2)) | (refine m_effn rfl ?_ e_storeW; rintro _ _ rfl; refine m_go ?_ (hE := by first | exact fun h => absurd h (by decide) | exact fun _ => Ent.refl | exact fun _ => ent_cell2)) | (refine m_effn rfl ?_ e_storeA; rintro _ _ rfl; refine m_go ?_ (hE := by first | exact fun h => absurd h (by decide) | exact fun _ => Ent.refl | exact fun _ => ent_cell2)))
          refine St.imp ?_
          refine mo_pre ?_
          (refine m_eff rfl ?_ (e_buildSlice1); rintro _ _ ⟨gv, rfl, rfl⟩; refine m_go ?_ (hE := by first | exact fun h => absurd h (by decide) | exact fun _ => Ent.refl | exact fun _ => ent_cell2))
          refine St.imp ?_
          refine mo_pre ?_
          (first | refine m_val rfl ?_ v_nilCheck | refine m_val rfl ?_ v_nilCheckF)
          (first | refine m_val rfl ?_ v_field | refine m_val rfl ?_ v_fieldE | refine m_val rfl ?_ v_field0)
          (first | refine m_val rfl ?_ v_field | refine m_val rfl ?_ v_fieldE | refine m_val rfl ?_ v_field0)
          (first | refine m_val rfl ?_ v_field | refine m_val rfl ?_ v_fieldE | refine m_val rfl ?_ v_field0)
          (first | (refine m_effn rfl ?_ e_store; rintro _ _ rfl; refine m_go ?_ (hE := by first | exact fun h => absurd h (by decide) | exact fun _ => Ent.refl | exact fun _ => ent_cell2)) | (refine m_effn rfl ?_ e_storeW; rintro _ _ rfl; refine m_go ?_ (hE := by first | exact fun h => absurd h (by decide) | exact fun _ => Ent.refl | exact fun _ => ent_cell2)) | (refine m_effn rfl ?_ e_storeA; rintro _ _ rfl; refine m_go ?_ (hE := by first | exact fun h => absurd h (by decide) | exact fun _ => Ent.refl | exact fun _ => ent_cell2)))
          refine St.imp ?_
          exact a_weak (J gv trivial)
  rintro gv -
  refine mo_nil ?_
  refine tk_ent (Go.Eng.Ent.trans (Bs := .blk gv [.int .i64 R.id] 3 :: [blkR b (standQ R gv) [out.v] u, .blk bx [ptrB b] 59, rowM out, entsA out.l, rowE R.log.ents, rowI R.next, rowI R.mtch, rowI R.sent, rowR R.reads, acksA R.reads.l]) Go.Eng.Ent.pickC ent_blkRow) ?_
  refine a_castK (Cs := [rowI ⟨[R.id], some ⟨gv, 0, none⟩, 1⟩, blkR b (standQ R gv) [out.v] u, .blk bx [ptrB b] 59, rowM out, entsA out.l, rowE R.log.ents, rowI R.next, rowI R.mtch, rowI R.sent, rowR R.reads, acksA R.reads.l]) ?_ rfl
  repeat (first | refine St.imp ?_ | (refine st_seq ?_; intro K hK) | refine st_t ?_ | refine st_f ?_ | refine st_miss ?_)
  repeat (first | refine St.imp ?_ | (refine st_seq ?_; intro K hK) | refine st_t ?_ | refine st_f ?_ | refine st_miss ?_)
  (first | refine a_val ?_ v_load | refine a_val ?_ v_loadA)
  (first | refine a_val ?_ v_nilCheck | refine a_val ?_ v_nilCheckF)
  (first | refine a_val ?_ v_field | refine a_val ?_ v_fieldE | refine a_val ?_ v_field0)
  (refine a_eff ?_ (e_callO [blkR b (standQ R gv) [out.v] u] rfl rfl fun w hw hb => forget_m b (standQ R gv) [out.v] u w hb); rintro _ _ ⟨_, ⟨rfl, rfl⟩, rfl⟩; simp only [List.cons_append, List.nil_append])
  repeat (first | refine St.imp ?_ | (refine st_seq ?_; intro K hK) | refine st_t ?_ | refine st_f ?_ | refine st_miss ?_)
  (first | refine a_val ?_ v_load | refine a_val ?_ v_loadA)
  (first | refine a_val ?_ v_nilCheck | refine a_val ?_ v_nilCheckF)
  (first | refine a_val ?_ v_field | refine a_val ?_ v_fieldE | refine a_val ?_ v_field0)
  (refine a_eff ?_ (e_callO [blkR b { standQ R gv with part := noB, partOf := 0 } [out.v] u] rfl rfl fun w hw hb => draw_m b { standQ R gv with part := noB, partOf := 0 } [out.v] u w hb); rintro _ _ ⟨_, ⟨rfl, rfl⟩, rfl⟩; simp only [List.cons_append, List.nil_append])
  repeat (first | refine St.imp ?_ | (refine st_seq ?_; intro K hK) | refine st_t ?_ | refine st_f ?_ | refine st_miss ?_)
  (first | refine a_val ?_ v_load | refine a_val ?_ v_loadA)
  (first | refine a_val ?_ v_nilCheck | refine a_val ?_ v_nilCheckF)
  (first | refine a_val ?_ v_field | refine a_val ?_ v_fieldE | refine a_val ?_ v_field0)
  (refine a_eff ?_ (e_callO [blkR b (standQ3 R gv) [out.v] u] rfl rfl fun w hw hb => last_m b (standQ3 R gv) [out.v] u w hb); rintro _ _ ⟨_, ⟨rfl, rfl⟩, rfl⟩; simp only [List.cons_append, List.nil_append])
  refine a_val ?_ v_move
  refine a_val ?_ v_extract
  refine a_val ?_ v_extract
  (refine a_eff ?_ (e_alloc); rintro _ _ ⟨ba, rfl, rfl⟩)
  (refine a_eff ?_ (e_alloc); rintro _ _ ⟨bb, rfl, rfl⟩)
  (first | (refine a_effn ?_ e_store; rintro _ _ rfl) | (refine a_effn ?_ e_storeW; rintro _ _ rfl) | (refine a_effn ?_ e_storeA; rintro _ _ rfl))
  (first | (refine a_effn ?_ e_store; rintro _ _ rfl) | (refine a_effn ?_ e_storeW; rintro _ _ rfl) | (refine a_effn ?_ e_storeA; rintro _ _ rfl))
  repeat (first | refine St.imp ?_ | (refine st_seq ?_; intro K hK) | refine st_t ?_ | refine st_f ?_ | refine st_miss ?_)
  (first | refine a_val ?_ v_load | refine a_val ?_ v_loadA)
  refine a_val ?_ v_makeFunc
  (refine a_eff ?_ (e_callO (stepB b (standQ3 R gv) out u) rfl rfl fun w hw hb => (haveI := Sl.blk1 (hw := hw) (enc := fun v : Value => [v]) (s := 1) (w := w) (Bs := stepB b (standQ3 R gv) out u) (g := bx) (ptrB b); haveI := Sl.blk1 (hw := hw) (enc := fun v : Value => [v]) (s := 1) (w := w) (Bs := stepB b (standQ3 R gv) out u) (g := ba) (Value.int .i64 R.log.p.endI); haveI := Sl.blk1 (hw := hw) (enc := fun v : Value => [v]) (s := 1) (w := w) (Bs := stepB b (standQ3 R gv) out u) (g := bb) (Value.int .i64 R.log.p.endT); others_m b (standQ3 R gv) out u 33 [] [.pointer (some ⟨bx, 0, none⟩), .pointer (some ⟨ba, 0, none⟩), .pointer (some ⟨bb, 0, none⟩)] (fun k => [(standQ3 R gv).p.say { Msg.zero with kind := 1, dst := k, index := R.log.p.endI, logTerm := R.log.p.endT }]) (fun k => by simp) hn (by rw [hout]; simp) w hb (fun k o w' h1 h2 hne hlo hw hb => by haveI := hw; exact stand1_m b bx ba bb (standQ3 R gv) o u k R.log.p.endI R.log.p.endT w' hb hlo))); rintro _ _ ⟨_, ⟨rfl, o1, ho1, rfl⟩, rfl⟩; simp only [List.cons_append, List.nil_append])
  repeat (first | refine St.imp ?_ | (refine st_seq ?_; intro K hK) | refine st_t ?_ | refine st_f ?_ | refine st_miss ?_)
  have hl1 : o1.l.length ≤ 900 := by
    have e1 := congrArg List.length ho1
    rw [hout, List.length_map, List.length_append] at e1
    simp only [List.map_nil, List.length_nil] at e1
    refine Nat.le_trans (Nat.le_of_eq e1) ?_
    rw [Nat.zero_add]
    exact Nat.le_trans (all_len _ _ (fun k => by simp) hn) (by decide)
  repeat (first | refine St.imp ?_ | (refine st_seq ?_; intro K hK) | refine st_t ?_ | refine st_f ?_ | refine st_miss ?_)
  (first | refine a_val ?_ v_load | refine a_val ?_ v_loadA)
  (refine a_eff ?_ (e_callO (stepA b (standQ3 R gv) o1 u) rfl rfl fun w hw hb => enough_m b (standQ3 R gv) o1 u w hb hlog hn hid (by simp only [numB, Bool.and_eq_true, decide_eq_true_eq]; omega) (by have h := hle; show R.p.log.endT ≤ R.term + 1; have h2 : R.p.log.endT ≤ R.term := h; omega) hsz hl1 hal.2.2.2 (by simp)); rintro _ _ ⟨_, ⟨rfl, R', o', hp, rfl⟩, rfl⟩; simp only [List.cons_append, List.nil_append])
  repeat (first | refine St.imp ?_ | (refine st_seq ?_; intro K hK) | refine st_t ?_ | refine st_f ?_ | refine st_miss ?_)
  first | refine a_retP (stepA b R' o' u) Try.results21 ?_ | refine a_endP (stepA b R' o' u) Try.results21 ?_
  refine ⟨rfl, R', o', ?_, rfl⟩
  rw [hp, standF, if_neg hc, ho1, hout, stand_p R gv hal]
  rfl
end Go.Proofs.Ytaclpbkbjmbceaa

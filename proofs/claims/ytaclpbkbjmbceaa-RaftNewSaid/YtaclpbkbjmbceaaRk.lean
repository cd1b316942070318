/-
  RAFT: one becomes the leader.
-/
import Derived.Test.YtaclpbkbjmbceaaRj
set_option linter.unusedVariables false
set_option linter.unusedSimpArgs false
set_option maxRecDepth 100000
set_option maxHeartbeats 4000000
namespace Go.Proofs.Ytaclpbkbjmbceaa
open Go.Eng
abbrev stepA (b : Nat) (R : RaftQ) (out : At MsgQ) (u : TypeId) : List Atom := [blkR b R [out.v] u, rowM out, entsA out.l, rowE R.log.ents, rowI R.votes, rowI R.next, rowI R.mtch, rowI R.sent, rowR R.reads, acksA R.reads.l]
abbrev nilI : At Int := ⟨[], none, 0⟩
abbrev nilR : At ReadQ := ⟨[], none, 0⟩
theorem runsB_snoc : ∀ (l : List Ent) (i t : Int) (e : Ent), runsB i t l = true → goodB e = true → e.index = i + l.length + 1 → (match l.getLast? with | some x => x.term | none => t) ≤ e.term → runsB i t (l ++ [e]) = true
  | [], i, t, e, _, hg, hi, ht => by
    simp [runsB] at *
    exact ⟨hg, by omega, ht⟩
  | x :: l, i, t, e, hr, hg, hi, ht => by
    simp only [runsB, Bool.and_eq_true, decide_eq_true_eq, List.cons_append] at hr ⊢
    obtain ⟨h1, h2, h3, h4⟩ := hr
    refine ⟨h1, h2, h3, runsB_snoc l x.index x.term e h4 hg (by rw [h2, hi]; simp; omega) ?_⟩
    cases l with
    | nil => simpa using ht
    | cons y l =>
      rw [List.getLast?_cons_cons] at ht
      cases h : (y :: l).getLast? with
      | none => simp at h
      | some z => rw [h] at ht; exact ht
theorem put_logB (R : Raft) (hlog : logB R.log = true) (hf : R.full = false) (ht : numB R.term = true) (hle : R.log.endT ≤ R.term) : logB (R.put noB).log = true := by
  have hend := log_end hlog
  simp only [logB, Bool.and_eq_true, decide_eq_true_eq] at hlog ⊢
  obtain ⟨h1, h2, h3, h4, h5⟩ := hlog
  simp only [Raft.full, Bool.or_eq_false_iff, decide_eq_false_iff_not] at hf
  simp only [Raft.put]
  refine ⟨h1, h2, h3, by simp; omega, runsB_snoc _ _ _ _ h5 ?_ (by simp only; omega) ?_⟩
  · simp only [goodB, Bool.and_eq_true, decide_eq_true_eq]
    exact ⟨by omega, by omega, ht, by decide⟩
  · simp only [Log.endT] at hle
    exact hle
abbrev crownQ (R : RaftQ) (x : At Ent) (y : At Int) (g1 g2 : Nat) : RaftQ := ⟨R.id, R.nodes, 2, R.term, R.vote, R.id, ⟨R.log.base, R.log.baseTerm, x⟩, R.snap, R.commit, 0, R.timeout, R.seed, nilI, y, ⟨List.replicate R.nodes.toNat 0, some ⟨g1, 0, none⟩, R.nodes.toNat⟩, ⟨List.replicate R.nodes.toNat 0, some ⟨g2, 0, none⟩, R.nodes.toNat⟩, R.round, R.reads, R.part, R.partOf⟩
abbrev crownB (b : Nat) (R : RaftQ) (x : At Ent) (y : At Int) (g1 g2 : Nat) (tl : List Value) (u : TypeId) : Atom := .blk b (.int .i64 R.id :: .int .i64 R.nodes :: .int .i64 2 :: .int .i64 R.term :: .int .i64 R.vote :: .int .i64 R.id :: .int .i64 R.log.base :: .int .i64 R.log.baseTerm :: x.v :: .string R.snap :: .int .i64 R.commit :: .int .i64 0 :: .int .i64 R.timeout :: .int .u64 R.seed :: .slice none 0 0 :: y.v :: .slice (some ⟨g1, 0, none⟩) R.nodes.toNat R.nodes.toNat :: .slice (some ⟨g2, 0, none⟩) R.nodes.toNat R.nodes.toNat :: .int .i64 R.round :: R.reads.v :: .string R.part :: .int .i64 R.partOf :: tl) u
abbrev row0 (g n : Nat) : Atom := .row (.slice (some ⟨g, 0, none⟩) n n) 3 1 (List.replicate n ty3.zero)
theorem row0_eq (g n : Nat) : row0 g n = rowI ⟨List.replicate n 0, some ⟨g, 0, none⟩, n⟩ := by
  show Atom.row _ _ _ _ = Atom.row (.slice _ (List.replicate n (0 : Int)).length _) _ _ ((List.replicate n (0 : Int)).map ints)
  rw [List.length_replicate, List.map_replicate]
theorem crownB_eq (b : Nat) (R : RaftQ) (x : At Ent) (y : At Int) (g1 g2 : Nat) (tl : List Value) (u : TypeId) : crownB b R x y g1 g2 tl u = blkR b (crownQ R x y g1 g2) tl u := by
  have h : ∀ g : Nat, (⟨List.replicate R.nodes.toNat 0, some ⟨g, 0, none⟩, R.nodes.toNat⟩ : At Int).v = Value.slice (some ⟨g, 0, none⟩) R.nodes.toNat R.nodes.toNat := fun g => by
    show Value.slice _ (List.replicate R.nodes.toNat (0 : Int)).length _ = _
    rw [List.length_replicate]
  show _ = Atom.blk b (RaftQ.cells (crownQ R x y g1 g2) tl) u
  unfold RaftQ.cells
  rw [h, h]
  rfl
theorem crown_p (R : RaftQ) (x : At Ent) (y : At Int) (g1 g2 : Nat) (hx : x.l = R.log.ents.l ++ [⟨R.log.p.endI + 1, R.term, noB⟩]) (hy : y.l = List.replicate R.nodes.toNat (R.log.p.endI + 1)) (hreads : R.reads.l = []) :
    RaftQ.p (crownQ R x y g1 g2) = R.p.crown := by
  simp only [RaftQ.p, LogQ.p, Raft.crown, Raft.put, Raft.alone, hx, hy, hreads, List.map_nil]
theorem ent_rows0 {Γ : Ctx} {As : List Atom} : Go.Eng.Ent Γ As (rowI nilI :: rowI nilI :: rowI nilI :: rowI nilI :: rowR nilR :: acksA [] :: As) :=
  Go.Eng.Ent.many_nil.trans ((Go.Eng.Ent.nilrow _ _).trans ((Go.Eng.Ent.nilrow _ _).trans ((Go.Eng.Ent.nilrow _ _).trans ((Go.Eng.Ent.nilrow _ _).trans (Go.Eng.Ent.nilrow _ _)))))
theorem getD_rep (n : Nat) (a : Int) (j : Nat) (h : j < n) : (List.replicate n a).getD j 0 = a := by
  rw [List.getD_eq_getElem?_getD, List.getElem?_replicate, if_pos h]
  rfl
theorem crown_send (R : Raft) (hlog : logB R.log = true) (hf : R.full = false) (ht : numB R.term = true) (hle : R.log.endT ≤ R.term) (hn : 1 ≤ R.nodes ∧ R.nodes ≤ 7) (hsz : R.snap.size ≤ 1099511627776) (k : Int) (h1 : 1 ≤ k) (h2 : k ≤ R.nodes) : Sendable R.crown k := by
  have hp := put_logB R hlog hf ht hle
  have e1 := log_end hlog
  have e2 := log_end hp
  have e3 : (R.put noB).log.ents.length = R.log.ents.length + 1 := by simp [Raft.put]
  have e4 : (R.put noB).log.base = R.log.base := rfl
  have hb0 : 0 ≤ R.log.base := by
    have h := hlog
    simp [logB] at h
    exact h.1
  have e5 : R.crown.log = (R.put noB).log := rfl
  have e6 : R.crown.next.getD (k - 1).toNat 0 = R.log.endI + 1 := getD_rep _ _ _ (by omega)
  have e7 : R.crown.sent.getD (k - 1).toNat 0 = 0 := getD_rep _ _ _ (by omega)
  have e8 : R.crown.next.length = R.nodes.toNat := List.length_replicate ..
  have e9 : R.crown.sent.length = R.nodes.toNat := List.length_replicate ..
  exact ⟨hp, h1, by omega, by omega, by omega, by rw [e6, e5]; omega, by omega, by rw [e7]; omega, hsz⟩
theorem ent_nilI {Γ : Ctx} {As : List Atom} {x : At Int} (h : x = nilI) : Go.Eng.Ent Γ As (rowI x :: As) := by
  subst h
  exact Go.Eng.Ent.nilrow _ _
theorem lead_m (b : Nat) (R : RaftQ) (out : At MsgQ) (u : TypeId) (w : World) (hb : HeapOK w (fpAll (stepA b R out u)) (stepA b R out u) w) (hlog : logB R.p.log = true) (hn : 1 ≤ R.nodes ∧ R.nodes ≤ 7) (hid : 1 ≤ R.id ∧ R.id ≤ R.nodes) (ht : numB R.p.term = true) (hle : R.p.log.endT ≤ R.p.term) (hsz : R.snap.size ≤ 1099511627776) (hlen : out.l.length ≤ 900) (hreads : R.reads.l = []) :
    Meets Try.prog 45 [ptrB b] w (fpAll (stepA b R out u)) (fun v As => v = .tuple #[] ∧ ∃ (R' : RaftQ) (o' : At MsgQ), (R'.p, o'.l.map MsgQ.p) = leadF (R.p, out.l.map MsgQ.p) ∧ As = stepA b R' o' u) := by
  have hend : R.log.p.endI = R.log.base + R.log.ents.l.length := log_end hlog
  have hbb : 0 ≤ R.log.base ∧ R.log.base ≤ 1099511625728 ∧ (R.log.ents.l.length : Int) ≤ 512 := by
    have h := hlog
    simp [logB] at h
    exact ⟨h.1, h.2.1, h.2.2.2.1⟩
  have hlc : LenC R.log.ents.l := ⟨by omega⟩
  refine enter tysOK Try.func45 rfl Try.ntmps45 rfl (hb) ?_
  repeat (first | refine St.imp ?_ | (refine st_seq ?_; intro K hK) | refine st_t ?_ | refine st_f ?_ | refine st_miss ?_)
  refine a_val ?_ v_move
  (first | refine a_val ?_ v_nilCheck | refine a_val ?_ v_nilCheckF)
  (first | refine a_val ?_ v_field | refine a_val ?_ v_fieldE | refine a_val ?_ v_field0)
  (refine a_eff ?_ (e_callO [blkR b R [out.v] u] rfl rfl fun w hw hb => last_m b R [out.v] u w hb); rintro _ _ ⟨_, ⟨rfl, rfl⟩, rfl⟩; simp only [List.cons_append, List.nil_append])
  refine a_val ?_ v_move
  refine a_val ?_ v_extract
  refine a_val ?_ v_extract
  refine a_val ?_ v_assign
  refine a_val ?_ v_assign
  repeat (first | refine St.imp ?_ | (refine st_seq ?_; intro K hK) | refine st_t ?_ | refine st_f ?_ | refine st_miss ?_)
  refine a_val ?_ v_move
  (first | refine a_val ?_ v_nilCheck | refine a_val ?_ v_nilCheckF)
  (first | refine a_val ?_ v_field | refine a_val ?_ v_fieldE | refine a_val ?_ v_field0)
  refine a_eff ?_ (e_callO [blkR b R [out.v] u, rowE R.log.ents] rfl rfl fun w hw hb => put_m b R noB [out.v] u w hb hlog)
  rintro _ _ ⟨_, (⟨hfull, rfl, rfl⟩ | ⟨hfull, rfl, x, hx, rfl⟩), rfl⟩
  · simp only [List.cons_append, List.nil_append]
    refine a_val ?_ v_not
    repeat (first | refine St.imp ?_ | (refine st_seq ?_; intro K hK) | refine st_t ?_ | refine st_f ?_ | refine st_miss ?_)
    refine a_mix [0, 1, 2, 3, 4, 5, 6, 7, 8, 9] ?_
    refine m_val rfl ?_ v_move
    (first | refine m_val rfl ?_ v_nilCheck | refine m_val rfl ?_ v_nilCheckF)
    (first | refine m_val rfl ?_ v_field | refine m_val rfl ?_ v_fieldE | refine m_val rfl ?_ v_field0)
    refine m_val rfl ?_ v_move
    (first | refine m_val rfl ?_ v_nilCheck | refine m_val rfl ?_ v_nilCheckF)
    (first | refine m_val rfl ?_ v_field | refine m_val rfl ?_ v_fieldE | refine m_val rfl ?_ v_field0)
    (first | refine m_val rfl ?_ v_field | refine m_val rfl ?_ v_fieldE | refine m_val rfl ?_ v_field0)
    (first | refine m_val rfl ?_ v_field | refine m_val rfl ?_ v_fieldE | refine m_val rfl ?_ v_field0)
    (first | refine m_val rfl ?_ v_load | refine m_val rfl ?_ v_loadA)
    (refine m_eff rfl ?_ (e_callO [blkR b R [out.v] u] rfl rfl fun w hw hb => back_m b R R.term [out.v] u w hb); rintro _ _ ⟨_, ⟨rfl, rfl⟩, rfl⟩; simp only [List.cons_append, List.nil_append]; refine m_go ?_)
    repeat (first | refine St.imp ?_ | (refine st_seq ?_; intro K hK) | refine st_t ?_ | refine st_f ?_ | refine st_miss ?_)
    have hf : R.falls R.term = { R.alone with role := 0, leader := 0 } := if_neg (by omega)
    rw [hf]
    refine tk_ent ent_rows0 ?_
    first | refine a_retP (stepA b { R.alone with role := 0, leader := 0 } out u) Try.results45 ?_ | refine a_endP (stepA b { R.alone with role := 0, leader := 0 } out u) Try.results45 ?_
    refine ⟨rfl, _, _, ?_, rfl⟩
    simp only [leadF, hfull, if_true, Raft.falls]
    rw [if_neg (by omega)]
    rfl
  · simp only [List.cons_append, List.nil_append]
    refine a_val ?_ v_not
    repeat (first | refine St.imp ?_ | (refine st_seq ?_; intro K hK) | refine st_t ?_ | refine st_f ?_ | refine st_miss ?_)
    refine a_val ?_ v_move
    refine a_val ?_ v_move
    refine a_val ?_ v_move
    refine a_val ?_ v_move
    refine a_val ?_ v_move
    (first | refine a_val ?_ v_nilCheck | refine a_val ?_ v_nilCheckF)
    (first | refine a_val ?_ v_field | refine a_val ?_ v_fieldE | refine a_val ?_ v_field0)
    (first | refine a_val ?_ v_field | refine a_val ?_ v_fieldE | refine a_val ?_ v_field0)
    (first | refine a_val ?_ v_field | refine a_val ?_ v_fieldE | refine a_val ?_ v_field0)
    (first | refine a_val ?_ v_load | refine a_val ?_ v_loadA)
    (first | refine a_val ?_ v_nilCheck | refine a_val ?_ v_nilCheckF)
    (first | refine a_val ?_ v_field | refine a_val ?_ v_fieldE | refine a_val ?_ v_field0)
    (first | refine a_val ?_ v_field | refine a_val ?_ v_fieldE | refine a_val ?_ v_field0)
    (first | refine a_val ?_ v_field | refine a_val ?_ v_fieldE | refine a_val ?_ v_field0)
    (first | (refine a_effn ?_ e_store; rintro _ _ rfl) | (refine a_effn ?_ e_storeW; rintro _ _ rfl) | (refine a_effn ?_ e_storeA; rintro _ _ rfl))
    (first | refine a_val ?_ v_nilCheck | refine a_val ?_ v_nilCheckF)
    (first | refine a_val ?_ v_field | refine a_val ?_ v_fieldE | refine a_val ?_ v_field0)
    (first | refine a_val ?_ v_field | refine a_val ?_ v_fieldE | refine a_val ?_ v_field0)
    (first | refine a_val ?_ v_field | refine a_val ?_ v_fieldE | refine a_val ?_ v_field0)
    (first | (refine a_effn ?_ e_store; rintro _ _ rfl) | (refine a_effn ?_ e_storeW; rintro _ _ rfl) | (refine a_effn ?_ e_storeA; rintro _ _ rfl))
    (first | refine a_val ?_ v_nilCheck | refine a_val ?_ v_nilCheckF)
    (first | refine a_val ?_ v_field | refine a_val ?_ v_fieldE | refine a_val ?_ v_field0)
    (first | refine a_val ?_ v_field | refine a_val ?_ v_fieldE | refine a_val ?_ v_field0)
    (first | refine a_val ?_ v_field | refine a_val ?_ v_fieldE | refine a_val ?_ v_field0)
    (first | (refine a_effn ?_ e_store; rintro _ _ rfl) | (refine a_effn ?_ e_storeW; rintro _ _ rfl) | (refine a_effn ?_ e_storeA; rintro _ _ rfl))
    (first | refine a_val ?_ v_nilCheck | refine a_val ?_ v_nilCheckF)
    (first | refine a_val ?_ v_field | refine a_val ?_ v_fieldE | refine a_val ?_ v_field0)
    (first | refine a_val ?_ v_field | refine a_val ?_ v_fieldE | refine a_val ?_ v_field0)
    (first | refine a_val ?_ v_field | refine a_val ?_ v_fieldE | refine a_val ?_ v_field0)
    (first | (refine a_effn ?_ e_store; rintro _ _ rfl) | (refine a_effn ?_ e_storeW; rintro _ _ rfl) | (refine a_effn ?_ e_storeA; rintro _ _ rfl))
    repeat (first | refine St.imp ?_ | (refine st_seq ?_; intro K hK) | refine st_t ?_ | refine st_f ?_ | refine st_miss ?_)
    have hfull : R.p.full = false := hfull
    repeat (first | refine St.imp ?_ | (refine st_seq ?_; intro K hK) | refine st_t ?_ | refine st_f ?_ | refine st_miss ?_)
    refine a_moA #[0, 0, 0, 0, 8, 24, 0, 64, 192, 448, 960, 1984, 4088, 0, 8192, 24576, 57344, 122880, 253952, 516096, 0, 1048576, 3145728, 7340032, 15728640, 32505856, 66060288, 66584569, 200802297, 469237753, 1006108665, 2079850489, 4227858427, 8522825723, 17112760315, 34292629499, 68652367867, 137438953471, 274877906943, 549755813887, 1099511627775, 2199023255551] [] (.pre [0, 1, 2, 3, 6, 13, 20, 4, 7, 14, 21, 8, 15, 22, 9, 16, 23, 10, 17, 24, 11, 18, 25] (.fork (.pre [5] (.fork (.pre [12] (.pre [27, 28, 29, 30] (.fork (.pre [19] (.fork (.pre [26] (.pre [31] (.pre [32, 33, 34, 35, 36] (.pre [37, 38, 39, 40, 41] .nil)))) (.pre [31] (.pre [32, 33, 34, 35] (.fork (.pre [26] (.pre [36] (.pre [37, 38, 39, 40, 41] .nil))) (.pre [36] (.pre [26] (.pre [37, 38, 39, 40, 41] .nil)))))))) (.fork (.pre [26] (.fork (.pre [19] (.pre [31] (.pre [32, 33, 34, 35, 36] (.pre [37, 38, 39, 40, 41] .nil)))) (.pre [31] (.pre [19] (.pre [32, 33, 34, 35, 36] (.pre [37, 38, 39, 40, 41] .nil)))))) (.pre [31] (.fork (.pre [19] (.pre [32, 33, 34, 35] (.fork (.pre [26] (.pre [36] (.pre [37, 38, 39, 40, 41] .nil))) (.pre [36] (.pre [26] (.pre [37, 38, 39, 40, 41] .nil)))))) (.pre [26] (.pre [19] (.pre [32, 33, 34, 35, 36] (.pre [37, 38, 39, 40, 41] .nil)))))))))) (.fork (.pre [19] (.fork (.pre [12] (.pre [27, 28, 29, 30] (.fork (.pre [26] (.pre [31] (.pre [32, 33, 34, 35, 36] (.pre [37, 38, 39, 40, 41] .nil)))) (.pre [31] (.pre [32, 33, 34, 35] (.fork (.pre [26] (.pre [36] (.pre [37, 38, 39, 40, 41] .nil))) (.pre [36] (.pre [26] (.pre [37, 38, 39, 40, 41] .nil))))))))) (.pre [26] (.pre [12] (.pre [27, 28, 29, 30, 31] (.pre [32, 33, 34, 35, 36] (.pre [37, 38, 39, 40, 41] .nil))))))) (.pre [26] (.fork (.pre [12] (.pre [27, 28, 29, 30] (.fork (.pre [19] (.pre [31] (.pre [32, 33, 34, 35, 36] (.pre [37, 38, 39, 40, 41] .nil)))) (.pre [31] (.pre [19] (.pre [32, 33, 34, 35, 36] (.pre [37, 38, 39, 40, 41] .nil))))))) (.pre [19] (.pre [12] (.pre [27, 28, 29, 30, 31] (.pre [32, 33, 34, 35, 36] (.pre [37, 38, 39, 40, 41] .nil)))))))))) (.fork (.pre [19] (.fork (.pre [5] (.fork (.pre [12] (.pre [27, 28, 29, 30] (.fork (.pre [26] (.pre [31] (.pre [32, 33, 34, 35, 36] (.pre [37, 38, 39, 40, 41] .nil)))) (.pre [31] (.pre [32, 33, 34, 35] (.fork (.pre [26] (.pre [36] (.pre [37, 38, 39, 40, 41] .nil))) (.pre [36] (.pre [26] (.pre [37, 38, 39, 40, 41] .nil))))))))) (.pre [26] (.pre [12] (.pre [27, 28, 29, 30, 31] (.pre [32, 33, 34, 35, 36] (.pre [37, 38, 39, 40, 41] .nil))))))) (.pre [26] (.pre [5] (.pre [12] (.pre [27, 28, 29, 30, 31] (.pre [32, 33, 34, 35, 36] (.pre [37, 38, 39, 40, 41] .nil)))))))) (.pre [26] (.fork (.pre [5] (.fork (.pre [12] (.pre [27, 28, 29, 30] (.fork (.pre [19] (.pre [31] (.pre [32, 33, 34, 35, 36] (.pre [37, 38, 39, 40, 41] .nil)))) (.pre [31] (.pre [19] (.pre [32, 33, 34, 35, 36] (.pre [37, 38, 39, 40, 41] .nil))))))) (.pre [19] (.pre [12] (.pre [27, 28, 29, 30, 31] (.pre [32, 33, 34, 35, 36] (.pre [37, 38, 39, 40, 41] .nil))))))) (.pre [19] (.pre [5] (.pre [12] (.pre [27, 28, 29, 30, 31] (.pre [32, 33, 34, 35, 36] (.pre [37, 38, 39, 40, 41] .nil))))))))))) [cellG b 1 (.int .i64 R.nodes)] (Go.Eng.Ent.cellC) ?_
    refine mo_join (σ := At Int × Nat × Nat) (fun s => [(0, ptrB b)]) (fun s => [crownB b R x s.1 s.2.1 s.2.2 [out.v] u, rowI s.1, row0 s.2.1 R.nodes.toNat, row0 s.2.2 R.nodes.toNat, rowM out, entsA out.l, rowE x, rowR R.reads, acksA R.reads.l]) (fun s => s.1.l = List.replicate R.nodes.toNat (R.log.p.endI + 1)) .nil _ (fun J => ?_) ?_
    · refine mo_pre ?_
      refine m_val rfl ?_ v_move
      refine m_val rfl ?_ v_move
      refine m_val rfl ?_ v_move
      refine m_val rfl ?_ v_move
      refine m_val rfl ?_ v_move
      refine m_val rfl ?_ v_move
      refine m_val rfl ?_ v_move
      (first | refine m_val rfl ?_ v_add | refine m_val rfl ?_ v_cat)
      (first | refine m_val rfl ?_ v_nilCheck | refine m_val rfl ?_ v_nilCheckF)
      (first | refine m_val rfl ?_ v_nilCheck | refine m_val rfl ?_ v_nilCheckF)
      (first | refine m_val rfl ?_ v_nilCheck | refine m_val rfl ?_ v_nilCheckF)
      (first | refine m_val rfl ?_ v_field | refine m_val rfl ?_ v_fieldE | refine m_val rfl ?_ v_field0)
      (first | refine m_val rfl ?_ v_field | refine m_val rfl ?_ v_fieldE | refine m_val rfl ?_ v_field0)
      (first | refine m_val rfl ?_ v_field | refine m_val rfl ?_ v_fieldE | refine m_val rfl ?_ v_field0)
      (first | refine m_val rfl ?_ v_field | refine m_val rfl ?_ v_fieldE | refine m_val rfl ?_ v_field0)
      (first | refine m_val rfl ?_ v_field | refine m_val rfl ?_ v_fieldE | refine m_val rfl ?_ v_field0)
      (first | refine m_val rfl ?_ v_field | refine m_val rfl ?_ v_fieldE | refine m_val rfl ?_ v_field0)
      (first | refine m_val rfl ?_ v_field | refine m_val rfl ?_ v_fieldE | refine m_val rfl ?_ v_field0)
      (first | refine m_val rfl ?_ v_field | refine m_val rfl ?_ v_fieldE | refine m_val rfl ?_ v_field0)
      (first | refine m_val rfl ?_ v_field | refine m_val rfl ?_ v_fieldE | refine m_val rfl ?_ v_field0)
      refine m_val rfl ?_ ((v_loadE0 (A := some ⟨b, 1, none⟩) (s := 1) (l := [Value.int .i64 R.nodes]) (enc := fun v => [v]) (j := 0) rfl))
      refine m_val rfl ?_ ((v_loadE0 (A := some ⟨b, 1, none⟩) (s := 1) (l := [Value.int .i64 R.nodes]) (enc := fun v => [v]) (j := 0) rfl))
      refine m_val rfl ?_ ((v_loadE0 (A := some ⟨b, 1, none⟩) (s := 1) (l := [Value.int .i64 R.nodes]) (enc := fun v => [v]) (j := 0) rfl))
      refine St.imp ?_
      refine mo_fork ?_ ?_
      · refine mo_pre ?_
        (refine m_eff rfl ?_ (e_buildSlice1); rintro _ _ ⟨g5, rfl, rfl⟩; refine m_go ?_ (hE := by first | exact fun h => absurd h (by decide) | exact fun _ => Ent.refl | exact fun _ => Go.Eng.Ent.cellC))
        refine St.imp ?_
        refine mo_fork ?_ ?_
        · refine mo_pre ?_
          (refine m_eff rfl ?_ (e_callN rfl rfl fun w hw => (haveI := Sl.blk1 (hw := hw) (enc := ints) (s := 1) (w := w) (Bs := []) (g := g5) (R.log.p.endI + 1); repeat_m g5 3 (R.log.p.endI + 1) R.nodes hn w)); rintro _ _ ⟨_, ⟨y, hy, rfl, rfl⟩, rfl⟩; simp only [List.cons_append, List.nil_append]; refine m_go ?_ (hE := by first | exact fun h => absurd h (by decide) | exact fun _ => Ent.refl | exact fun _ => Go.Eng.Ent.cellC))
          refine St.imp ?_
          refine mo_pre ?_
          (first | refine m_val rfl ?_ v_nilCheck | refine m_val rfl ?_ v_nilCheckF)
          (first | refine m_val rfl ?_ v_field | refine m_val rfl ?_ v_fieldE | refine m_val rfl ?_ v_field0)
          (first | refine m_val rfl ?_ v_field | refine m_val rfl ?_ v_fieldE | refine m_val rfl ?_ v_field0)
          (first | refine m_val rfl ?_ v_field | refine m_val rfl ?_ v_fieldE | refine m_val rfl ?_ v_field0)
          refine St.imp ?_
          refine mo_fork ?_ ?_
          · refine mo_pre ?_
            (refine m_eff rfl ?_ ((e_make (hb := by show _ * 8 ≤ _ ∧ _; constructor <;> omega))); rintro _ _ ⟨g1, rfl, rfl⟩; refine m_go ?_ (hE := by first | exact fun h => absurd h (by decide) | exact fun _ => Ent.refl | exact fun _ => Go.Eng.Ent.cellC))
            refine St.imp ?_
            refine mo_fork ?_ ?_
            · refine mo_pre ?_
              (refine m_eff rfl ?_ ((e_make (hb := by show _ * 8 ≤ _ ∧ _; constructor <;> omega))); rintro _ _ ⟨g2, rfl, rfl⟩; refine m_go ?_ (hE := by first | exact fun h => absurd h (by decide) | exact fun _ => Ent.refl | exact fun _ => Go.Eng.Ent.cellC))
              refine St.imp ?_
              refine mo_pre ?_
              (first | (refine m_effn rfl ?_ e_store; rintro _ _ rfl; refine m_go ?_ (hE := by first | exact fun h => absurd h (by decide) | exact fun _ => Ent.refl | exact fun _ => Go.Eng.Ent.cellC)) | (refine m_effn rfl ?_ e_storeW; rintro _ _ rfl; refine m_go ?_ (hE := by first | exact fun h => absurd h (by decide) | exact fun _ => Ent.refl | exact fun _ => Go.Eng.Ent.cellC)) | (refine m_effn rfl ?_ e_storeA; rintro _ _ rfl; refine m_go ?_ (hE := by first | exact fun h => absurd h (by decide) | exact fun _ => Ent.refl | exact fun _ => Go.Eng.Ent.cellC)))
              refine St.imp ?_
              refine mo_pre ?_
              (first | refine m_val rfl ?_ v_nilCheck | refine m_val rfl ?_ v_nilCheckF)
              (first | refine m_val rfl ?_ v_field | refine m_val rfl ?_ v_fieldE | refine m_val rfl ?_ v_field0)
              (first | refine m_val rfl ?_ v_field | refine m_val rfl ?_ v_fieldE | refine m_val rfl ?_ v_field0)
              (first | refine m_val rfl ?_ v_field | refine m_val rfl ?_ v_fieldE | refine m_val rfl ?_ v_field0)
              (first | (refine m_effn rfl ?_ e_store; rintro _ _ rfl; refine m_go ?_ (hE := by first | exact fun h => absurd h (by decide) | exact fun _ => Ent.refl | exact fun _ => Go.Eng.Ent.cellC)) | (refine m_effn rfl ?_ e_storeW; rintro _ _ rfl; refine m_go ?_ (hE := by first | exact fun h => absurd h (by decide) | exact fun _ => Ent.refl | exact fun _ => Go.Eng.Ent.cellC)) | (refine m_effn rfl ?_ e_storeA; rintro _ _ rfl; refine m_go ?_ (hE := by first | exact fun h => absurd h (by decide) | exact fun _ => Ent.refl | exact fun _ => Go.Eng.Ent.cellC)))
              refine St.imp ?_
              refine mo_pre ?_
              (first | refine m_val rfl ?_ v_nilCheck | refine m_val rfl ?_ v_nilCheckF)
              (first | refine m_val rfl ?_ v_field | refine m_val rfl ?_ v_fieldE | refine m_val rfl ?_ v_field0)
              (first | refine m_val rfl ?_ v_field | refine m_val rfl ?_ v_fieldE | refine m_val rfl ?_ v_field0)
              (first | refine m_val rfl ?_ v_field | refine m_val rfl ?_ v_fieldE | refine m_val rfl ?_ v_field0)
              (first | (refine m_effn rfl ?_ e_store; rintro _ _ rfl; refine m_go ?_ (hE := by first | exact fun h => absurd h (by decide) | exact fun _ => Ent.refl | exact fun _ => Go.Eng.Ent.cellC)) | (refine m_effn rfl ?_ e_storeW; rintro _ _ rfl; refine m_go ?_ (hE := by first | exact fun h => absurd h (by decide) | exact fun _ => Ent.refl | exact fun _ => Go.Eng.Ent.cellC)) | (refine m_effn rfl ?_ e_storeA; rintro _ _ rfl; refine m_go ?_ (hE := by first | exact fun h => absurd h (by decide) | exact fun _ => Ent.refl | exact fun _ => Go.Eng.Ent.cellC)))
              refine St.imp ?_
              exact a_weak (J (y, g1, g2) hy)
            · refine mo_pre ?_
              (first | (refine m_effn rfl ?_ e_store; rintro _ _ rfl; refine m_go ?_ (hE := by first | exact fun h => absurd h (by decide) | exact fun _ => Ent.refl | exact fun _ => Go.Eng.Ent.cellC)) | (refine m_effn rfl ?_ e_storeW; rintro _ _ rfl; refine m_go ?_ (hE := by first | exact fun h => absurd h (by decide) | exact fun _ => Ent.refl | exact fun _ => Go.Eng.Ent.cellC)) | (refine m_effn rfl ?_ e_storeA; rintro _ _ rfl; refine m_go ?_ (hE := by first | exact fun h => absurd h (by decide) | exact fun _ => Ent.refl | exact fun _ => Go.Eng.Ent.cellC)))
              refine St.imp ?_
              refine mo_pre ?_
              (first | refine m_val rfl ?_ v_nilCheck | refine m_val rfl ?_ v_nilCheckF)
              (first | refine m_val rfl ?_ v_field | refine m_val rfl ?_ v_fieldE | refine m_val rfl ?_ v_field0)
              (first | refine m_val rfl ?_ v_field | refine m_val rfl ?_ v_fieldE | refine m_val rfl ?_ v_field0)
              (first | refine m_val rfl ?_ v_field | refine m_val rfl ?_ v_fieldE | refine m_val rfl ?_ v_field0)
              refine St.imp ?_
              refine mo_fork ?_ ?_
              · refine mo_pre ?_
                (refine m_eff rfl ?_ ((e_make (hb := by show _ * 8 ≤ _ ∧ _; constructor <;> omega))); rintro _ _ ⟨g2, rfl, rfl⟩; refine m_go ?_ (hE := by first | exact fun h => absurd h (by decide) | exact fun _ => Ent.refl | exact fun _ => Go.Eng.Ent.cellC))
                refine St.imp ?_
                refine mo_pre ?_
                (first | (refine m_effn rfl ?_ e_store; rintro _ _ rfl; refine m_go ?_ (hE := by first | exact fun h => absurd h (by decide) | exact fun _ => Ent.refl | exact fun _ => Go.Eng.Ent.cellC)) | (refine m_effn rfl ?_ e_storeW; rintro _ _ rfl; refine m_go ?_ (hE := by first | exact fun h => absurd h (by decide) | exact fun _ => Ent.refl | exact fun _ => Go.Eng.Ent.cellC)) | (refine m_effn rfl ?_ e_storeA; rintro _ _ rfl; refine m_go ?_ (hE := by first | exact fun h => absurd h (by decide) | exact fun _ => Ent.refl | exact fun _ => Go.Eng.Ent.cellC)))
                refine St.imp ?_
                refine mo_pre ?_
                (first | refine m_val rfl ?_ v_nilCheck | refine m_val rfl ?_ v_nilCheckF)
                (first | refine m_val rfl ?_ v_field | refine m_val rfl ?_ v_fieldE | refine m_val rfl ?_ v_field0)
                (first | refine m_val rfl ?_ v_field | refine m_val rfl ?_ v_fieldE | refine m_val rfl ?_ v_field0)
                (first | refine m_val rfl ?_ v_field | refine m_val rfl ?_ v_fieldE | refine m_val rfl ?_ v_field0)
                (first | (refine m_effn rfl ?_ e_store; rintro _ _ rfl; refine m_go ?_ (hE := by first | exact fun h => absurd h (by decide) | exact fun _ => Ent.refl | exact fun _ => Go.Eng.Ent.cellC)) | (refine m_effn rfl ?_ e_storeW; rintro _ _ rfl; refine m_go ?_ (hE := by first | exact fun h => absurd h (by decide) | exact fun _ => Ent.refl | exact fun _ => Go.Eng.Ent.cellC)) | (refine m_effn rfl ?_ e_storeA; rintro _ _ rfl; refine m_go ?_ (hE := by first | exact fun h => absurd h (by decide) | exact fun _ => Ent.refl | exact fun _ => Go.Eng.Ent.cellC)))
                refine St.imp ?_
                exact a_weak (J (y, g1, g2) hy)
              · refine mo_pre ?_
                (first | (refine m_effn rfl ?_ e_store; rintro _ _ rfl; refine m_go ?_ (hE := by first | exact fun h => absurd h (by decide) | exact fun _ => Ent.refl | exact fun _ => Go.Eng.Ent.cellC)) | (refine m_effn rfl ?_ e_storeW; rintro _ _ rfl; refine m_go ?_ (hE := by first | exact fun h => absurd h (by decide) | exact fun _ => Ent.refl | exact fun _ => Go.Eng.Ent.cellC)) | (refine m_effn rfl ?_ e_storeA; rintro _ _ rfl; refine m_go ?_ (hE := by first | exact fun h => absurd h (by decide) | exact fun _ => Ent.refl | exact fun _ => Go.Eng.Ent.cellC)))
                refine St.imp ?_
                refine mo_pre ?_
                (refine m_eff rfl ?_ ((e_make (hb := by show _ * 8 ≤ _ ∧ _; constructor <;> omega))); rintro _ _ ⟨g2, rfl, rfl⟩; refine m_go ?_ (hE := by first | exact fun h => absurd h (by decide) | exact fun _ => Ent.refl | exact fun _ => Go.Eng.Ent.cellC))
                refine St.imp ?_
                refine mo_pre ?_
                (first | refine m_val rfl ?_ v_nilCheck | refine m_val rfl ?_ v_nilCheckF)
                (first | refine m_val rfl ?_ v_field | refine m_val rfl ?_ v_fieldE | refine m_val rfl ?_ v_field0)
                (first | refine m_val rfl ?_ v_field | refine m_val rfl ?_ v_fieldE | refine m_val rfl ?_ v_field0)
                (first | refine m_val rfl ?_ v_field | refine m_val rfl ?_ v_fieldE | refine m_val rfl ?_ v_field0)
                (first | (refine m_effn rfl ?_ e_store; rintro _ _ rfl; refine m_go ?_ (hE := by first | exact fun h => absurd h (by decide) | exact fun _ => Ent.refl | exact fun _ => Go.Eng.Ent.cellC)) | (refine m_effn rfl ?_ e_storeW; rintro _ _ rfl; refine m_go ?_ (hE := by first | exact fun h => absurd h (by decide) | exact fun _ => Ent.refl | exact fun _ => Go.Eng.Ent.cellC)) | (refine m_effn rfl ?_ e_storeA; rintro _ _ rfl; refine m_go ?_ (hE := by first | exact fun h => absurd h (by decide) | exact fun _ => Ent.refl | exact fun _ => Go.Eng.Ent.cellC)))
                refine St.imp ?_
                exact a_weak (J (y, g1, g2) hy)
          refine mo_fork ?_ ?_
          · refine mo_pre ?_
            (refine m_eff rfl ?_ ((e_make (hb := by show _ * 8 ≤ _ ∧ _; constructor <;> omega))); rintro _ _ ⟨g2, rfl, rfl⟩; refine m_go ?_ (hE := by first | exact fun h => absurd h (by decide) | exact fun _ => Ent.refl | exact fun _ => Go.Eng.Ent.cellC))
            refine St.imp ?_
            refine mo_fork ?_ ?_
            · refine mo_pre ?_
              (refine m_eff rfl ?_ ((e_make (hb := by show _ * 8 ≤ _ ∧ _; constructor <;> omega))); rintro _ _ ⟨g1, rfl, rfl⟩; refine m_go ?_ (hE := by first | exact fun h => absurd h (by decide) | exact fun _ => Ent.refl | exact fun _ => Go.Eng.Ent.cellC))
              refine St.imp ?_
              refine mo_pre ?_
              (first | (refine m_effn rfl ?_ e_store; rintro _ _ rfl; refine m_go ?_ (hE := by first | exact fun h => absurd h (by decide) | exact fun _ => Ent.refl | exact fun _ => Go.Eng.Ent.cellC)) | (refine m_effn rfl ?_ e_storeW; rintro _ _ rfl; refine m_go ?_ (hE := by first | exact fun h => absurd h (by decide) | exact fun _ => Ent.refl | exact fun _ => Go.Eng.Ent.cellC)) | (refine m_effn rfl ?_ e_storeA; rintro _ _ rfl; refine m_go ?_ (hE := by first | exact fun h => absurd h (by decide) | exact fun _ => Ent.refl | exact fun _ => Go.Eng.Ent.cellC)))
              refine St.imp ?_
              refine mo_pre ?_
              (first | refine m_val rfl ?_ v_nilCheck | refine m_val rfl ?_ v_nilCheckF)
              (first | refine m_val rfl ?_ v_field | refine m_val rfl ?_ v_fieldE | refine m_val rfl ?_ v_field0)
              (first | refine m_val rfl ?_ v_field | refine m_val rfl ?_ v_fieldE | refine m_val rfl ?_ v_field0)
              (first | refine m_val rfl ?_ v_field | refine m_val rfl ?_ v_fieldE | refine m_val rfl ?_ v_field0)
              (first | (refine m_effn rfl ?_ e_store; rintro _ _ rfl; refine m_go ?_ (hE := by first | exact fun h => absurd h (by decide) | exact fun _ => Ent.refl | exact fun _ => Go.Eng.Ent.cellC)) | (refine m_effn rfl ?_ e_storeW; rintro _ _ rfl; refine m_go ?_ (hE := by first | exact fun h => absurd h (by decide) | exact fun _ => Ent.refl | exact fun _ => Go.Eng.Ent.cellC)) | (refine m_effn rfl ?_ e_storeA; rintro _ _ rfl; refine m_go ?_ (hE := by first | exact fun h => absurd h (by decide) | exact fun _ => Ent.refl | exact fun _ => Go.Eng.Ent.cellC)))
              refine St.imp ?_
              refine mo_pre ?_
              (first | refine m_val rfl ?_ v_nilCheck | refine m_val rfl ?_ v_nilCheckF)
              (first | refine m_val rfl ?_ v_field | refine m_val rfl ?_ v_fieldE | refine m_val rfl ?_ v_field0)
              (first | refine m_val rfl ?_ v_field | refine m_val rfl ?_ v_fieldE | refine m_val rfl ?_ v_field0)
              (first | refine m_val rfl ?_ v_field | refine m_val rfl ?_ v_fieldE | refine m_val rfl ?_ v_field0)
              (first | (refine m_effn rfl ?_ e_store; rintro _ _ rfl; refine m_go ?_ (hE := by first | exact fun h => absurd h (by decide) | exact fun _ => Ent.refl | exact fun _ => Go.Eng.Ent.cellC)) | (refine m_effn rfl ?_ e_storeW; rintro _ _ rfl; refine m_go ?_ (hE := by first | exact fun h => absurd h (by decide) | exact fun _ => Ent.refl | exact fun _ => Go.Eng.Ent.cellC)) | (refine m_effn rfl ?_ e_storeA; rintro _ _ rfl; refine m_go ?_ (hE := by first | exact fun h => absurd h (by decide) | exact fun _ => Ent.refl | exact fun _ => Go.Eng.Ent.cellC)))
              refine St.imp ?_
              exact a_weak (J (y, g1, g2) hy)
            · refine mo_pre ?_
              (first | (refine m_effn rfl ?_ e_store; rintro _ _ rfl; refine m_go ?_ (hE := by first | exact fun h => absurd h (by decide) | exact fun _ => Ent.refl | exact fun _ => Go.Eng.Ent.cellC)) | (refine m_effn rfl ?_ e_storeW; rintro _ _ rfl; refine m_go ?_ (hE := by first | exact fun h => absurd h (by decide) | exact fun _ => Ent.refl | exact fun _ => Go.Eng.Ent.cellC)) | (refine m_effn rfl ?_ e_storeA; rintro _ _ rfl; refine m_go ?_ (hE := by first | exact fun h => absurd h (by decide) | exact fun _ => Ent.refl | exact fun _ => Go.Eng.Ent.cellC)))
              refine St.imp ?_
              refine mo_pre ?_
              (refine m_eff rfl ?_ ((e_make (hb := by show _ * 8 ≤ _ ∧ _; constructor <;> omega))); rintro _ _ ⟨g1, rfl, rfl⟩; refine m_go ?_ (hE := by first | exact fun h => absurd h (by decide) | exact fun _ => Ent.refl | exact fun _ => Go.Eng.Ent.cellC))
              refine St.imp ?_
              refine mo_pre ?_
              (first | refine m_val rfl ?_ v_nilCheck | refine m_val rfl ?_ v_nilCheckF)
              (first | refine m_val rfl ?_ v_field | refine m_val rfl ?_ v_fieldE | refine m_val rfl ?_ v_field0)
              (first | refine m_val rfl ?_ v_field | refine m_val rfl ?_ v_fieldE | refine m_val rfl ?_ v_field0)
              (first | refine m_val rfl ?_ v_field | refine m_val rfl ?_ v_fieldE | refine m_val rfl ?_ v_field0)
              (first | (refine m_effn rfl ?_ e_store; rintro _ _ rfl; refine m_go ?_ (hE := by first | exact fun h => absurd h (by decide) | exact fun _ => Ent.refl | exact fun _ => Go.Eng.Ent.cellC)) | (refine m_effn rfl ?_ e_storeW; rintro _ _ rfl; refine m_go ?_ (hE := by first | exact fun h => absurd h (by decide) | exact fun _ => Ent.refl | exact fun _ => Go.Eng.Ent.cellC)) | (refine m_effn rfl ?_ e_storeA; rintro _ _ rfl; refine m_go ?_ (hE := by first | exact fun h => absurd h (by decide) | exact fun _ => Ent.refl | exact fun _ => Go.Eng.Ent.cellC)))
              refine St.imp ?_
              refine mo_pre ?_
              (first | refine m_val rfl ?_ v_nilCheck | refine m_val rfl ?_ v_nilCheckF)
              (first | refine m_val rfl ?_ v_field | refine m_val rfl ?_ v_fieldE | refine m_val rfl ?_ v_field0)
              (first | refine m_val rfl ?_ v_field | refine m_val rfl ?_ v_fieldE | refine m_val rfl ?_ v_field0)
              (first | refine m_val rfl ?_ v_field | refine m_val rfl ?_ v_fieldE | refine m_val rfl ?_ v_field0)
              (first | (refine m_effn rfl ?_ e_store; rintro _ _ rfl; refine m_go ?_ (hE := by first | exact fun h => absurd h (by decide) | exact fun _ => Ent.refl | exact fun _ => Go.Eng.Ent.cellC)) | (refine m_effn rfl ?_ e_storeW; rintro _ _ rfl; refine m_go ?_ (hE := by first | exact fun h => absurd h (by decide) | exact fun _ => Ent.refl | exact fun _ => Go.Eng.Ent.cellC)) | (refine m_effn rfl ?_ e_storeA; rintro _ _ rfl; refine m_go ?_ (hE := by first | exact fun h => absurd h (by decide) | exact fun _ => Ent.refl | exact fun _ => Go.Eng.Ent.cellC)))
              refine St.imp ?_
              exact a_weak (J (y, g1, g2) hy)
          · refine mo_pre ?_
            (first | (refine m_effn rfl ?_ e_store; rintro _ _ rfl; refine m_go ?_ (hE := by first | exact fun h => absurd h (by decide) | exact fun _ => Ent.refl | exact fun _ => Go.Eng.Ent.cellC)) | (refine m_effn rfl ?_ e_storeW; rintro _ _ rfl; refine m_go ?_ (hE := by first | exact fun h => absurd h (by decide) | exact fun _ => Ent.refl | exact fun _ => Go.Eng.Ent.cellC)) | (refine m_effn rfl ?_ e_storeA; rintro _ _ rfl; refine m_go ?_ (hE := by first | exact fun h => absurd h (by decide) | exact fun _ => Ent.refl | exact fun _ => Go.Eng.Ent.cellC)))
            refine St.imp ?_
            refine mo_fork ?_ ?_
            · refine mo_pre ?_
              (refine m_eff rfl ?_ ((e_make (hb := by show _ * 8 ≤ _ ∧ _; constructor <;> omega))); rintro _ _ ⟨g1, rfl, rfl⟩; refine m_go ?_ (hE := by first | exact fun h => absurd h (by decide) | exact fun _ => Ent.refl | exact fun _ => Go.Eng.Ent.cellC))
              refine St.imp ?_
              refine mo_pre ?_
              (first | refine m_val rfl ?_ v_nilCheck | refine m_val rfl ?_ v_nilCheckF)
              (first | refine m_val rfl ?_ v_field | refine m_val rfl ?_ v_fieldE | refine m_val rfl ?_ v_field0)
              (first | refine m_val rfl ?_ v_field | refine m_val rfl ?_ v_fieldE | refine m_val rfl ?_ v_field0)
              (first | refine m_val rfl ?_ v_field | refine m_val rfl ?_ v_fieldE | refine m_val rfl ?_ v_field0)
              refine St.imp ?_
              refine mo_fork ?_ ?_
              · refine mo_pre ?_
                (refine m_eff rfl ?_ ((e_make (hb := by show _ * 8 ≤ _ ∧ _; constructor <;> omega))); rintro _ _ ⟨g2, rfl, rfl⟩; refine m_go ?_ (hE := by first | exact fun h => absurd h (by decide) | exact fun _ => Ent.refl | exact fun _ => Go.Eng.Ent.cellC))
                refine St.imp ?_
                refine mo_pre ?_
                (first | (refine m_effn rfl ?_ e_store; rintro _ _ rfl; refine m_go ?_ (hE := by first | exact fun h => absurd h (by decide) | exact fun _ => Ent.refl | exact fun _ => Go.Eng.Ent.cellC)) | (refine m_effn rfl ?_ e_storeW; rintro _ _ rfl; refine m_go ?_ (hE := by first | exact fun h => absurd h (by decide) | exact fun _ => Ent.refl | exact fun _ => Go.Eng.Ent.cellC)) | (refine m_effn rfl ?_ e_storeA; rintro _ _ rfl; refine m_go ?_ (hE := by first | exact fun h => absurd h (by decide) | exact fun _ => Ent.refl | exact fun _ => Go.Eng.Ent.cellC)))
                refine St.imp ?_
                refine mo_pre ?_
                (first | refine m_val rfl ?_ v_nilCheck | refine m_val rfl ?_ v_nilCheckF)
                (first | refine m_val rfl ?_ v_field | refine m_val rfl ?_ v_fieldE | refine m_val rfl ?_ v_field0)
                (first | refine m_val rfl ?_ v_field | refine m_val rfl ?_ v_fieldE | refine m_val rfl ?_ v_field0)
                (first | refine m_val rfl ?_ v_field | refine m_val rfl ?_ v_fieldE | refine m_val rfl ?_ v_field0)
                (first | (refine m_effn rfl ?_ e_store; rintro _ _ rfl; refine m_go ?_ (hE := by first | exact fun h => absurd h (by decide) | exact fun _ => Ent.refl | exact fun _ => Go.Eng.Ent.cellC)) | (refine m_effn rfl ?_ e_storeW; rintro _ _ rfl; refine m_go ?_ (hE := by first | exact fun h => absurd h (by decide) | exact fun _ => Ent.refl | exact fun _ => Go.Eng.Ent.cellC)) | (refine m_effn rfl ?_ e_storeA; rintro _ _ rfl; refine m_go ?_ (hE := by first | exact fun h => absurd h (by decide) | exact fun _ => Ent.refl | exact fun _ => Go.Eng.Ent.cellC)))
                refine St.imp ?_
                exact a_weak (J (y, g1, g2) hy)
              · refine mo_pre ?_
                (first | (refine m_effn rfl ?_ e_store; rintro _ _ rfl; refine m_go ?_ (hE := by first | exact fun h => absurd h (by decide) | exact fun _ => Ent.refl | exact fun _ => Go.Eng.Ent.cellC)) | (refine m_effn rfl ?_ e_storeW; rintro _ _ rfl; refine m_go ?_ (hE := by first | exact fun h => absurd h (by decide) | exact fun _ => Ent.refl | exact fun _ => Go.Eng.Ent.cellC)) | (refine m_effn rfl ?_ e_storeA; rintro _ _ rfl; refine m_go ?_ (hE := by first | exact fun h => absurd h (by decide) | exact fun _ => Ent.refl | exact fun _ => Go.Eng.Ent.cellC)))
                refine St.imp ?_
                refine mo_pre ?_
                (refine m_eff rfl ?_ ((e_make (hb := by show _ * 8 ≤ _ ∧ _; constructor <;> omega))); rintro _ _ ⟨g2, rfl, rfl⟩; refine m_go ?_ (hE := by first | exact fun h => absurd h (by decide) | exact fun _ => Ent.refl | exact fun _ => Go.Eng.Ent.cellC))
                refine St.imp ?_
                refine mo_pre ?_
                (first | refine m_val rfl ?_ v_nilCheck | refine m_val rfl ?_ v_nilCheckF)
                (first | refine m_val rfl ?_ v_field | refine m_val rfl ?_ v_fieldE | refine m_val rfl ?_ v_field0)
                (first | refine m_val rfl ?_ v_field | refine m_val rfl ?_ v_fieldE | refine m_val rfl ?_ v_field0)
                (first | refine m_val rfl ?_ v_field | refine m_val rfl ?_ v_fieldE | refine m_val rfl ?_ v_field0)
                (first | (refine m_effn rfl ?_ e_store; rintro _ _ rfl; refine m_go ?_ (hE := by first | exact fun h => absurd h (by decide) | exact fun _ => Ent.refl | exact fun _ => Go.Eng.Ent.cellC)) | (refine m_effn rfl ?_ e_storeW; rintro _ _ rfl; refine m_go ?_ (hE := by first | exact fun h => absurd h (by decide) | exact fun _ => Ent.refl | exact fun _ => Go.Eng.Ent.cellC)) | (refine m_effn rfl ?_ e_storeA; rintro _ _ rfl; refine m_go ?_ (hE := by first | exact fun h => absurd h (by decide) | exact fun _ => Ent.refl | exact fun _ => Go.Eng.Ent.cellC)))
                refine St.imp ?_
                exact a_weak (J (y, g1, g2) hy)
            · refine mo_pre ?_
              (refine m_eff rfl ?_ ((e_make (hb := by show _ * 8 ≤ _ ∧ _; constructor <;> omega))); rintro _ _ ⟨g2, rfl, rfl⟩; refine m_go ?_ (hE := by first | exact fun h => absurd h (by decide) | exact fun _ => Ent.refl | exact fun _ => Go.Eng.Ent.cellC))
              refine St.imp ?_
              refine mo_pre ?_
              (refine m_eff rfl ?_ ((e_make (hb := by show _ * 8 ≤ _ ∧ _; constructor <;> omega))); rintro _ _ ⟨g1, rfl, rfl⟩; refine m_go ?_ (hE := by first | exact fun h => absurd h (by decide) | exact fun _ => Ent.refl | exact fun _ => Go.Eng.Ent.cellC))
              refine St.imp ?_
              refine mo_pre ?_
              (first | refine m_val rfl ?_ v_nilCheck | refine m_val rfl ?_ v_nilCheckF)
              (first | refine m_val rfl ?_ v_field | refine m_val rfl ?_ v_fieldE | refine m_val rfl ?_ v_field0)
              (first | refine m_val rfl ?_ v_field | refine m_val rfl ?_ v_fieldE | refine m_val rfl ?_ v_field0)
              (first | refine m_val rfl ?_ v_field | refine m_val rfl ?_ v_fieldE | refine m_val rfl ?_ v_field0)
              (first | (refine m_effn rfl ?_ e_store; rintro _ _ rfl; refine m_go ?_ (hE := by first | exact fun h => absurd h (by decide) | exact fun _ => Ent.refl | exact fun _ => Go.Eng.Ent.cellC)) | (refine m_effn rfl ?_ e_storeW; rintro _ _ rfl; refine m_go ?_ (hE := by first | exact fun h => absurd h (by decide) | exact fun _ => Ent.refl | exact fun _ => Go.Eng.Ent.cellC)) | (refine m_effn rfl ?_ e_storeA; rintro _ _ rfl; refine m_go ?_ (hE := by first | exact fun h => absurd h (by decide) | exact fun _ => Ent.refl | exact fun _ => Go.Eng.Ent.cellC)))
              refine St.imp ?_
              refine mo_pre ?_
              (first | refine m_val rfl ?_ v_nilCheck | refine m_val rfl ?_ v_nilCheckF)
              (first | refine m_val rfl ?_ v_field | refine m_val rfl ?_ v_fieldE | refine m_val rfl ?_ v_field0)
              (first | refine m_val rfl ?_ v_field | refine m_val rfl ?_ v_fieldE | refine m_val rfl ?_ v_field0)
              (first | refine m_val rfl ?_ v_field | refine m_val rfl ?_ v_fieldE | refine m_val rfl ?_ v_field0)
              (first | (refine m_effn rfl ?_ e_store; rintro _ _ rfl; refine m_go ?_ (hE := by first | exact fun h => absurd h (by decide) | exact fun _ => Ent.refl | exact fun _ => Go.Eng.Ent.cellC)) | (refine m_effn rfl ?_ e_storeW; rintro _ _ rfl; refine m_go ?_ (hE := by first | exact fun h => absurd h (by decide) | exact fun _ => Ent.refl | exact fun _ => Go.Eng.Ent.cellC)) | (refine m_effn rfl ?_ e_storeA; rintro _ _ rfl; refine m_go ?_ (hE := by first | exact fun h => absurd h (by decide) | exact fun _ => Ent.refl | exact fun _ => Go.Eng.Ent.cellC)))
              refine St.imp ?_
              exact a_weak (J (y, g1, g2) hy)
        refine mo_fork ?_ ?_
        · refine mo_pre ?_
          (refine m_eff rfl ?_ ((e_make (hb := by show _ * 8 ≤ _ ∧ _; constructor <;> omega))); rintro _ _ ⟨g1, rfl, rfl⟩; refine m_go ?_ (hE := by first | exact fun h => absurd h (by decide) | exact fun _ => Ent.refl | exact fun _ => Go.Eng.Ent.cellC))
          refine St.imp ?_
          refine mo_fork ?_ ?_
          · refine mo_pre ?_
            (refine m_eff rfl ?_ (e_callN rfl rfl fun w hw => (haveI := Sl.blk1 (hw := hw) (enc := ints) (s := 1) (w := w) (Bs := []) (g := g5) (R.log.p.endI + 1); repeat_m g5 3 (R.log.p.endI + 1) R.nodes hn w)); rintro _ _ ⟨_, ⟨y, hy, rfl, rfl⟩, rfl⟩; simp only [List.cons_append, List.nil_append]; refine m_go ?_ (hE := by first | exact fun h => absurd h (by decide) | exact fun _ => Ent.refl | exact fun _ => Go.Eng.Ent.cellC))
            refine St.imp ?_
            refine mo_pre ?_
            (first | refine m_val rfl ?_ v_nilCheck | refine m_val rfl ?_ v_nilCheckF)
            (first | refine m_val rfl ?_ v_field | refine m_val rfl ?_ v_fieldE | refine m_val rfl ?_ v_field0)
            (first | refine m_val rfl ?_ v_field | refine m_val rfl ?_ v_fieldE | refine m_val rfl ?_ v_field0)
            (first | refine m_val rfl ?_ v_field | refine m_val rfl ?_ v_fieldE | refine m_val rfl ?_ v_field0)
            refine St.imp ?_
            refine mo_fork ?_ ?_
            · refine mo_pre ?_
              (refine m_eff rfl ?_ ((e_make (hb := by show _ * 8 ≤ _ ∧ _; constructor <;> omega))); rintro _ _ ⟨g2, rfl, rfl⟩; refine m_go ?_ (hE := by first | exact fun h => absurd h (by decide) | exact fun _ => Ent.refl | exact fun _ => Go.Eng.Ent.cellC))
              refine St.imp ?_
              refine mo_pre ?_
              (first | (refine m_effn rfl ?_ e_store; rintro _ _ rfl; refine m_go ?_ (hE := by first | exact fun h => absurd h (by decide) | exact fun _ => Ent.refl | exact fun _ => Go.Eng.Ent.cellC)) | (refine m_effn rfl ?_ e_storeW; rintro _ _ rfl; refine m_go ?_ (hE := by first | exact fun h => absurd h (by decide) | exact fun _ => Ent.refl | exact fun _ => Go.Eng.Ent.cellC)) | (refine m_effn rfl ?_ e_storeA; rintro _ _ rfl; refine m_go ?_ (hE := by first | exact fun h => absurd h (by decide) | exact fun _ => Ent.refl | exact fun _ => Go.Eng.Ent.cellC)))
              refine St.imp ?_
              refine mo_pre ?_
              (first | refine m_val rfl ?_ v_nilCheck | refine m_val rfl ?_ v_nilCheckF)
              (first | refine m_val rfl ?_ v_field | refine m_val rfl ?_ v_fieldE | refine m_val rfl ?_ v_field0)
              (first | refine m_val rfl ?_ v_field | refine m_val rfl ?_ v_fieldE | refine m_val rfl ?_ v_field0)
              (first | refine m_val rfl ?_ v_field | refine m_val rfl ?_ v_fieldE | refine m_val rfl ?_ v_field0)
              (first | (refine m_effn rfl ?_ e_store; rintro _ _ rfl; refine m_go ?_ (hE := by first | exact fun h => absurd h (by decide) | exact fun _ => Ent.refl | exact fun _ => Go.Eng.Ent.cellC)) | (refine m_effn rfl ?_ e_storeW; rintro _ _ rfl; refine m_go ?_ (hE := by first | exact fun h => absurd h (by decide) | exact fun _ => Ent.refl | exact fun _ => Go.Eng.Ent.cellC)) | (refine m_effn rfl ?_ e_storeA; rintro _ _ rfl; refine m_go ?_ (hE := by first | exact fun h => absurd h (by decide) | exact fun _ => Ent.refl | exact fun _ => Go.Eng.Ent.cellC)))
              refine St.imp ?_
              refine mo_pre ?_
              (first | refine m_val rfl ?_ v_nilCheck | refine m_val rfl ?_ v_nilCheckF)
              (first | refine m_val rfl ?_ v_field | refine m_val rfl ?_ v_fieldE | refine m_val rfl ?_ v_field0)
              (first | refine m_val rfl ?_ v_field | refine m_val rfl ?_ v_fieldE | refine m_val rfl ?_ v_field0)
              (first | refine m_val rfl ?_ v_field | refine m_val rfl ?_ v_fieldE | refine m_val rfl ?_ v_field0)
              (first | (refine m_effn rfl ?_ e_store; rintro _ _ rfl; refine m_go ?_ (hE := by first | exact fun h => absurd h (by decide) | exact fun _ => Ent.refl | exact fun _ => Go.Eng.Ent.cellC)) | (refine m_effn rfl ?_ e_storeW; rintro _ _ rfl; refine m_go ?_ (hE := by first | exact fun h => absurd h (by decide) | exact fun _ => Ent.refl | exact fun _ => Go.Eng.Ent.cellC)) | (refine m_effn rfl ?_ e_storeA; rintro _ _ rfl; refine m_go ?_ (hE := by first | exact fun h => absurd h (by decide) | exact fun _ => Ent.refl | exact fun _ => Go.Eng.Ent.cellC)))
              refine St.imp ?_
              exact a_weak (J (y, g1, g2) hy)
            · refine mo_pre ?_
              (first | (refine m_effn rfl ?_ e_store; rintro _ _ rfl; refine m_go ?_ (hE := by first | exact fun h => absurd h (by decide) | exact fun _ => Ent.refl | exact fun _ => Go.Eng.Ent.cellC)) | (refine m_effn rfl ?_ e_storeW; rintro _ _ rfl; refine m_go ?_ (hE := by first | exact fun h => absurd h (by decide) | exact fun _ => Ent.refl | exact fun _ => Go.Eng.Ent.cellC)) | (refine m_effn rfl ?_ e_storeA; rintro _ _ rfl; refine m_go ?_ (hE := by first | exact fun h => absurd h (by decide) | exact fun _ => Ent.refl | exact fun _ => Go.Eng.Ent.cellC)))
              refine St.imp ?_
              refine mo_pre ?_
              (first | refine m_val rfl ?_ v_nilCheck | refine m_val rfl ?_ v_nilCheckF)
              (first | refine m_val rfl ?_ v_field | refine m_val rfl ?_ v_fieldE | refine m_val rfl ?_ v_field0)
              (first | refine m_val rfl ?_ v_field | refine m_val rfl ?_ v_fieldE | refine m_val rfl ?_ v_field0)
              (first | refine m_val rfl ?_ v_field | refine m_val rfl ?_ v_fieldE | refine m_val rfl ?_ v_field0)
              refine St.imp ?_
              refine mo_fork ?_ ?_
              · refine mo_pre ?_
                (refine m_eff rfl ?_ ((e_make (hb := by show _ * 8 ≤ _ ∧ _; constructor <;> omega))); rintro _ _ ⟨g2, rfl, rfl⟩; refine m_go ?_ (hE := by first | exact fun h => absurd h (by decide) | exact fun _ => Ent.refl | exact fun _ => Go.Eng.Ent.cellC))
                refine St.imp ?_
                refine mo_pre ?_
                (first | (refine m_effn rfl ?_ e_store; rintro _ _ rfl; refine m_go ?_ (hE := by first | exact fun h => absurd h (by decide) | exact fun _ => Ent.refl | exact fun _ => Go.Eng.Ent.cellC)) | (refine m_effn rfl ?_ e_storeW; rintro _ _ rfl; refine m_go ?_ (hE := by first | exact fun h => absurd h (by decide) | exact fun _ => Ent.refl | exact fun _ => Go.Eng.Ent.cellC)) | (refine m_effn rfl ?_ e_storeA; rintro _ _ rfl; refine m_go ?_ (hE := by first | exact fun h => absurd h (by decide) | exact fun _ => Ent.refl | exact fun _ => Go.Eng.Ent.cellC)))
                refine St.imp ?_
                refine mo_pre ?_
                (first | refine m_val rfl ?_ v_nilCheck | refine m_val rfl ?_ v_nilCheckF)
                (first | refine m_val rfl ?_ v_field | refine m_val rfl ?_ v_fieldE | refine m_val rfl ?_ v_field0)
                (first | refine m_val rfl ?_ v_field | refine m_val rfl ?_ v_fieldE | refine m_val rfl ?_ v_field0)
                (first | refine m_val rfl ?_ v_field | refine m_val rfl ?_ v_fieldE | refine m_val rfl ?_ v_field0)
                (first | (refine m_effn rfl ?_ e_store; rintro _ _ rfl; refine m_go ?_ (hE := by first | exact fun h => absurd h (by decide) | exact fun _ => Ent.refl | exact fun _ => Go.Eng.Ent.cellC)) | (refine m_effn rfl ?_ e_storeW; rintro _ _ rfl; refine m_go ?_ (hE := by first | exact fun h => absurd h (by decide) | exact fun _ => Ent.refl | exact fun _ => Go.Eng.Ent.cellC)) | (refine m_effn rfl ?_ e_storeA; rintro _ _ rfl; refine m_go ?_ (hE := by first | exact fun h => absurd h (by decide) | exact fun _ => Ent.refl | exact fun _ => Go.Eng.Ent.cellC)))
                refine St.imp ?_
                exact a_weak (J (y, g1, g2) hy)
              · refine mo_pre ?_
                (first | (refine m_effn rfl ?_ e_store; rintro _ _ rfl; refine m_go ?_ (hE := by first | exact fun h => absurd h (by decide) | exact fun _ => Ent.refl | exact fun _ => Go.Eng.Ent.cellC)) | (refine m_effn rfl ?_ e_storeW; rintro _ _ rfl; refine m_go ?_ (hE := by first | exact fun h => absurd h (by decide) | exact fun _ => Ent.refl | exact fun _ => Go.Eng.Ent.cellC)) | (refine m_effn rfl ?_ e_storeA; rintro _ _ rfl; refine m_go ?_ (hE := by first | exact fun h => absurd h (by decide) | exact fun _ => Ent.refl | exact fun _ => Go.Eng.Ent.cellC)))
                refine St.imp ?_
                refine mo_pre ?_
                (refine m_eff rfl ?_ ((e_make (hb := by show _ * 8 ≤ _ ∧ _; constructor <;> omega))); rintro _ _ ⟨g2, rfl, rfl⟩; refine m_go ?_ (hE := by first | exact fun h => absurd h (by decide) | exact fun _ => Ent.refl | exact fun _ => Go.Eng.Ent.cellC))
                refine St.imp ?_
                refine mo_pre ?_
                (first | refine m_val rfl ?_ v_nilCheck | refine m_val rfl ?_ v_nilCheckF)
                (first | refine m_val rfl ?_ v_field | refine m_val rfl ?_ v_fieldE | refine m_val rfl ?_ v_field0)
                (first | refine m_val rfl ?_ v_field | refine m_val rfl ?_ v_fieldE | refine m_val rfl ?_ v_field0)
                (first | refine m_val rfl ?_ v_field | refine m_val rfl ?_ v_fieldE | refine m_val rfl ?_ v_field0)
                (first | (refine m_effn rfl ?_ e_store; rintro _ _ rfl; refine m_go ?_ (hE := by first | exact fun h => absurd h (by decide) | exact fun _ => Ent.refl | exact fun _ => Go.Eng.Ent.cellC)) | (refine m_effn rfl ?_ e_storeW; rintro _ _ rfl; refine m_go ?_ (hE := by first | exact fun h => absurd h (by decide) | exact fun _ => Ent.refl | exact fun _ => Go.Eng.Ent.cellC)) | (refine m_effn rfl ?_ e_storeA; rintro _ _ rfl; refine m_go ?_ (hE := by first | exact fun h => absurd h (by decide) | exact fun _ => Ent.refl | exact fun _ => Go.Eng.Ent.cellC)))
                refine St.imp ?_
                exact a_weak (J (y, g1, g2) hy)
          · refine mo_pre ?_
            (refine m_eff rfl ?_ ((e_make (hb := by show _ * 8 ≤ _ ∧ _; constructor <;> omega))); rintro _ _ ⟨g2, rfl, rfl⟩; refine m_go ?_ (hE := by first | exact fun h => absurd h (by decide) | exact fun _ => Ent.refl | exact fun _ => Go.Eng.Ent.cellC))
            refine St.imp ?_
            refine mo_pre ?_
            (refine m_eff rfl ?_ (e_callN rfl rfl fun w hw => (haveI := Sl.blk1 (hw := hw) (enc := ints) (s := 1) (w := w) (Bs := []) (g := g5) (R.log.p.endI + 1); repeat_m g5 3 (R.log.p.endI + 1) R.nodes hn w)); rintro _ _ ⟨_, ⟨y, hy, rfl, rfl⟩, rfl⟩; simp only [List.cons_append, List.nil_append]; refine m_go ?_ (hE := by first | exact fun h => absurd h (by decide) | exact fun _ => Ent.refl | exact fun _ => Go.Eng.Ent.cellC))
            refine St.imp ?_
            refine mo_pre ?_
            (first | refine m_val rfl ?_ v_nilCheck | refine m_val rfl ?_ v_nilCheckF)
            (first | refine m_val rfl ?_ v_field | refine m_val rfl ?_ v_fieldE | refine m_val rfl ?_ v_field0)
            (first | refine m_val rfl ?_ v_field | refine m_val rfl ?_ v_fieldE | refine m_val rfl ?_ v_field0)
            (first | refine m_val rfl ?_ v_field | refine m_val rfl ?_ v_fieldE | refine m_val rfl ?_ v_field0)
            (first | (refine m_effn rfl ?_ e_store; rintro _ _ rfl; refine m_go ?_ (hE := by first | exact fun h => absurd h (by decide) | exact fun _ => Ent.refl | exact fun _ => Go.Eng.Ent.cellC)) | (refine m_effn rfl ?_ e_storeW; rintro _ _ rfl; refine m_go ?_ (hE := by first | exact fun h => absurd h (by decide) | exact fun _ => Ent.refl | exact fun _ => Go.Eng.Ent.cellC)) | (refine m_effn rfl ?_ e_storeA; rintro _ _ rfl; refine m_go ?_ (hE := by first | exact fun h => absurd h (by decide) | exact fun _ => Ent.refl | exact fun _ => Go.Eng.Ent.cellC)))
            refine St.imp ?_
            refine mo_pre ?_
            (first | refine m_val rfl ?_ v_nilCheck | refine m_val rfl ?_ v_nilCheckF)
            (first | refine m_val rfl ?_ v_field | refine m_val rfl ?_ v_fieldE | refine m_val rfl ?_ v_field0)
            (first | refine m_val rfl ?_ v_field | refine m_val rfl ?_ v_fieldE | refine m_val rfl ?_ v_field0)
            (first | refine m_val rfl ?_ v_field | refine m_val rfl ?_ v_fieldE | refine m_val rfl ?_ v_field0)
            (first | (refine m_effn rfl ?_ e_store; rintro _ _ rfl; refine m_go ?_ (hE := by first | exact fun h => absurd h (by decide) | exact fun _ => Ent.refl | exact fun _ => Go.Eng.Ent.cellC)) | (refine m_effn rfl ?_ e_storeW; rintro _ _ rfl; refine m_go ?_ (hE := by first | exact fun h => absurd h (by decide) | exact fun _ => Ent.refl | exact fun _ => Go.Eng.Ent.cellC)) | (refine m_effn rfl ?_ e_storeA; rintro _ _ rfl; refine m_go ?_ (hE := by first | exact fun h => absurd h (by decide) | exact fun _ => Ent.refl | exact fun _ => Go.Eng.Ent.cellC)))
            refine St.imp ?_
            refine mo_pre ?_
            (first | refine m_val rfl ?_ v_nilCheck | refine m_val rfl ?_ v_nilCheckF)
            (first | refine m_val rfl ?_ v_field | refine m_val rfl ?_ v_fieldE | refine m_val rfl ?_ v_field0)
            (first | refine m_val rfl ?_ v_field | refine m_val rfl ?_ v_fieldE | refine m_val rfl ?_ v_field0)
            (first | refine m_val rfl ?_ v_field | refine m_val rfl ?_ v_fieldE | refine m_val rfl ?_ v_field0)
            (first | (refine m_effn rfl ?_ e_store; rintro _ _ rfl; refine m_go ?_ (hE := by first | exact fun h => absurd h (by decide) | exact fun _ => Ent.refl | exact fun _ => Go.Eng.Ent.cellC)) | (refine m_effn rfl ?_ e_storeW; rintro _ _ rfl; refine m_go ?_ (hE := by first | exact fun h => absurd h (by decide) | exact fun _ => Ent.refl | exact fun _ => Go.Eng.Ent.cellC)) | (refine m_effn rfl ?_ e_storeA; rintro _ _ rfl; refine m_go ?_ (hE := by first | exact fun h => absurd h (by decide) | exact fun _ => Ent.refl | exact fun _ => Go.Eng.Ent.cellC)))
            refine St.imp ?_
            exact a_weak (J (y, g1, g2) hy)
        · refine mo_pre ?_
          (refine m_eff rfl ?_ ((e_make (hb := by show _ * 8 ≤ _ ∧ _; constructor <;> omega))); rintro _ _ ⟨g2, rfl, rfl⟩; refine m_go ?_ (hE := by first | exact fun h => absurd h (by decide) | exact fun _ => Ent.refl | exact fun _ => Go.Eng.Ent.cellC))
          refine St.imp ?_
          refine mo_fork ?_ ?_
          · refine mo_pre ?_
            (refine m_eff rfl ?_ (e_callN rfl rfl fun w hw => (haveI := Sl.blk1 (hw := hw) (enc := ints) (s := 1) (w := w) (Bs := []) (g := g5) (R.log.p.endI + 1); repeat_m g5 3 (R.log.p.endI + 1) R.nodes hn w)); rintro _ _ ⟨_, ⟨y, hy, rfl, rfl⟩, rfl⟩; simp only [List.cons_append, List.nil_append]; refine m_go ?_ (hE := by first | exact fun h => absurd h (by decide) | exact fun _ => Ent.refl | exact fun _ => Go.Eng.Ent.cellC))
            refine St.imp ?_
            refine mo_pre ?_
            (first | refine m_val rfl ?_ v_nilCheck | refine m_val rfl ?_ v_nilCheckF)
            (first | refine m_val rfl ?_ v_field | refine m_val rfl ?_ v_fieldE | refine m_val rfl ?_ v_field0)
            (first | refine m_val rfl ?_ v_field | refine m_val rfl ?_ v_fieldE | refine m_val rfl ?_ v_field0)
            (first | refine m_val rfl ?_ v_field | refine m_val rfl ?_ v_fieldE | refine m_val rfl ?_ v_field0)
            refine St.imp ?_
            refine mo_fork ?_ ?_
            · refine mo_pre ?_
              (refine m_eff rfl ?_ ((e_make (hb := by show _ * 8 ≤ _ ∧ _; constructor <;> omega))); rintro _ _ ⟨g1, rfl, rfl⟩; refine m_go ?_ (hE := by first | exact fun h => absurd h (by decide) | exact fun _ => Ent.refl | exact fun _ => Go.Eng.Ent.cellC))
              refine St.imp ?_
              refine mo_pre ?_
              (first | (refine m_effn rfl ?_ e_store; rintro _ _ rfl; refine m_go ?_ (hE := by first | exact fun h => absurd h (by decide) | exact fun _ => Ent.refl | exact fun _ => Go.Eng.Ent.cellC)) | (refine m_effn rfl ?_ e_storeW; rintro _ _ rfl; refine m_go ?_ (hE := by first | exact fun h => absurd h (by decide) | exact fun _ => Ent.refl | exact fun _ => Go.Eng.Ent.cellC)) | (refine m_effn rfl ?_ e_storeA; rintro _ _ rfl; refine m_go ?_ (hE := by first | exact fun h => absurd h (by decide) | exact fun _ => Ent.refl | exact fun _ => Go.Eng.Ent.cellC)))
              refine St.imp ?_
              refine mo_pre ?_
              (first | refine m_val rfl ?_ v_nilCheck | refine m_val rfl ?_ v_nilCheckF)
              (first | refine m_val rfl ?_ v_field | refine m_val rfl ?_ v_fieldE | refine m_val rfl ?_ v_field0)
              (first | refine m_val rfl ?_ v_field | refine m_val rfl ?_ v_fieldE | refine m_val rfl ?_ v_field0)
              (first | refine m_val rfl ?_ v_field | refine m_val rfl ?_ v_fieldE | refine m_val rfl ?_ v_field0)
              (first | (refine m_effn rfl ?_ e_store; rintro _ _ rfl; refine m_go ?_ (hE := by first | exact fun h => absurd h (by decide) | exact fun _ => Ent.refl | exact fun _ => Go.Eng.Ent.cellC)) | (refine m_effn rfl ?_ e_storeW; rintro _ _ rfl; refine m_go ?_ (hE := by first | exact fun h => absurd h (by decide) | exact fun _ => Ent.refl | exact fun _ => Go.Eng.Ent.cellC)) | (refine m_effn rfl ?_ e_storeA; rintro _ _ rfl; refine m_go ?_ (hE := by first | exact fun h => absurd h (by decide) | exact fun _ => Ent.refl | exact fun _ => Go.Eng.Ent.cellC)))
              refine St.imp ?_
              refine mo_pre ?_
              (first | refine m_val rfl ?_ v_nilCheck | refine m_val rfl ?_ v_nilCheckF)
              (first | refine m_val rfl ?_ v_field | refine m_val rfl ?_ v_fieldE | refine m_val rfl ?_ v_field0)
              (first | refine m_val rfl ?_ v_field | refine m_val rfl ?_ v_fieldE | refine m_val rfl ?_ v_field0)
              (first | refine m_val rfl ?_ v_field | refine m_val rfl ?_ v_fieldE | refine m_val rfl ?_ v_field0)
              (first | (refine m_effn rfl ?_ e_store; rintro _ _ rfl; refine m_go ?_ (hE := by first | exact fun h => absurd h (by decide) | exact fun _ => Ent.refl | exact fun _ => Go.Eng.Ent.cellC)) | (refine m_effn rfl ?_ e_storeW; rintro _ _ rfl; refine m_go ?_ (hE := by first | exact fun h => absurd h (by decide) | exact fun _ => Ent.refl | exact fun _ => Go.Eng.Ent.cellC)) | (refine m_effn rfl ?_ e_storeA; rintro _ _ rfl; refine m_go ?_ (hE := by first | exact fun h => absurd h (by decide) | exact fun _ => Ent.refl | exact fun _ => Go.Eng.Ent.cellC)))
              refine St.imp ?_
              exact a_weak (J (y, g1, g2) hy)
            · refine mo_pre ?_
              (first | (refine m_effn rfl ?_ e_store; rintro _ _ rfl; refine m_go ?_ (hE := by first | exact fun h => absurd h (by decide) | exact fun _ => Ent.refl | exact fun _ => Go.Eng.Ent.cellC)) | (refine m_effn rfl ?_ e_storeW; rintro _ _ rfl; refine m_go ?_ (hE := by first | exact fun h => absurd h (by decide) | exact fun _ => Ent.refl | exact fun _ => Go.Eng.Ent.cellC)) | (refine m_effn rfl ?_ e_storeA; rintro _ _ rfl; refine m_go ?_ (hE := by first | exact fun h => absurd h (by decide) | exact fun _ => Ent.refl | exact fun _ => Go.Eng.Ent.cellC)))
              refine St.imp ?_
              refine mo_pre ?_
              (refine m_eff rfl ?_ ((e_make (hb := by show _ * 8 ≤ _ ∧ _; constructor <;> omega))); rintro _ _ ⟨g1, rfl, rfl⟩; refine m_go ?_ (hE := by first | exact fun h => absurd h (by decide) | exact fun _ => Ent.refl | exact fun _ => Go.Eng.Ent.cellC))
              refine St.imp ?_
              refine mo_pre ?_
              (first | refine m_val rfl ?_ v_nilCheck | refine m_val rfl ?_ v_nilCheckF)
              (first | refine m_val rfl ?_ v_field | refine m_val rfl ?_ v_fieldE | refine m_val rfl ?_ v_field0)
              (first | refine m_val rfl ?_ v_field | refine m_val rfl ?_ v_fieldE | refine m_val rfl ?_ v_field0)
              (first | refine m_val rfl ?_ v_field | refine m_val rfl ?_ v_fieldE | refine m_val rfl ?_ v_field0)
              (first | (refine m_effn rfl ?_ e_store; rintro _ _ rfl; refine m_go ?_ (hE := by first | exact fun h => absurd h (by decide) | exact fun _ => Ent.refl | exact fun _ => Go.Eng.Ent.cellC)) | (refine m_effn rfl ?_ e_storeW; rintro _ _ rfl; refine m_go ?_ (hE := by first | exact fun h => absurd h (by decide) | exact fun _ => Ent.refl | exact fun _ => Go.Eng.Ent.cellC)) | (refine m_effn rfl ?_ e_storeA; rintro _ _ rfl; refine m_go ?_ (hE := by first | exact fun h => absurd h (by decide) | exact fun _ => Ent.refl | exact fun _ => Go.Eng.Ent.cellC)))
              refine St.imp ?_
              refine mo_pre ?_
              (first | refine m_val rfl ?_ v_nilCheck | refine m_val rfl ?_ v_nilCheckF)
              (first | refine m_val rfl ?_ v_field | refine m_val rfl ?_ v_fieldE | refine m_val rfl ?_ v_field0)
              (first | refine m_val rfl ?_ v_field | refine m_val rfl ?_ v_fieldE | refine m_val rfl ?_ v_field0)
              (first | refine m_val rfl ?_ v_field | refine m_val rfl ?_ v_fieldE | refine m_val rfl ?_ v_field0)
              (first | (refine m_effn rfl ?_ e_store; rintro _ _ rfl; refine m_go ?_ (hE := by first | exact fun h => absurd h (by decide) | exact fun _ => Ent.refl | exact fun _ => Go.Eng.Ent.cellC)) | (refine m_effn rfl ?_ e_storeW; rintro _ _ rfl; refine m_go ?_ (hE := by first | exact fun h => absurd h (by decide) | exact fun _ => Ent.refl | exact fun _ => Go.Eng.Ent.cellC)) | (refine m_effn rfl ?_ e_storeA; rintro _ _ rfl; refine m_go ?_ (hE := by first | exact fun h => absurd h (by decide) | exact fun _ => Ent.refl | exact fun _ => Go.Eng.Ent.cellC)))
              refine St.imp ?_
              exact a_weak (J (y, g1, g2) hy)
          · refine mo_pre ?_
            (refine m_eff rfl ?_ ((e_make (hb := by show _ * 8 ≤ _ ∧ _; constructor <;> omega))); rintro _ _ ⟨g1, rfl, rfl⟩; refine m_go ?_ (hE := by first | exact fun h => absurd h (by decide) | exact fun _ => Ent.refl | exact fun _ => Go.Eng.Ent.cellC))
            refine St.imp ?_
            refine mo_pre ?_
            (refine m_eff rfl ?_ (e_callN rfl rfl fun w hw => (haveI := Sl.blk1 (hw := hw) (enc := ints) (s := 1) (w := w) (Bs := []) (g := g5) (R.log.p.endI + 1); repeat_m g5 3 (R.log.p.endI + 1) R.nodes hn w)); rintro _ _ ⟨_, ⟨y, hy, rfl, rfl⟩, rfl⟩; simp only [List.cons_append, List.nil_append]; refine m_go ?_ (hE := by first | exact fun h => absurd h (by decide) | exact fun _ => Ent.refl | exact fun _ => Go.Eng.Ent.cellC))
            refine St.imp ?_
            refine mo_pre ?_
            (first | refine m_val rfl ?_ v_nilCheck | refine m_val rfl ?_ v_nilCheckF)
            (first | refine m_val rfl ?_ v_field | refine m_val rfl ?_ v_fieldE | refine m_val rfl ?_ v_field0)
            (first | refine m_val rfl ?_ v_field | refine m_val rfl ?_ v_fieldE | refine m_val rfl ?_ v_field0)
            (first | refine m_val rfl ?_ v_field | refine m_val rfl ?_ v_fieldE | refine m_val rfl ?_ v_field0)
            (first | (refine m_effn rfl ?_ e_store; rintro _ _ rfl; refine m_go ?_ (hE := by first | exact fun h => absurd h (by decide) | exact fun _ => Ent.refl | exact fun _ => Go.Eng.Ent.cellC)) | (refine m_effn rfl ?_ e_storeW; rintro _ _ rfl; refine m_go ?_ (hE := by first | exact fun h => absurd h (by decide) | exact fun _ => Ent.refl | exact fun _ => Go.Eng.Ent.cellC)) | (refine m_effn rfl ?_ e_storeA; rintro _ _ rfl; refine m_go ?_ (hE := by first | exact fun h => absurd h (by decide) | exact fun _ => Ent.refl | exact fun _ => Go.Eng.Ent.cellC)))
            refine St.imp ?_
            refine mo_pre ?_
            (first | refine m_val rfl ?_ v_nilCheck | refine m_val rfl ?_ v_nilCheckF)
            (first | refine m_val rfl ?_ v_field | refine m_val rfl ?_ v_fieldE | refine m_val rfl ?_ v_field0)
            (first | refine m_val rfl ?_ v_field | refine m_val rfl ?_ v_fieldE | refine m_val rfl ?_ v_field0)
            (first | refine m_val rfl ?_ v_field | refine m_val rfl ?_ v_fieldE | refine m_val rfl ?_ v_field0)
            (first | (refine m_effn rfl ?_ e_store; rintro _ _ rfl; refine m_go ?_ (hE := by first | exact fun h => absurd h (by decide) | exact fun _ => Ent.refl | exact fun _ => Go.Eng.Ent.cellC)) | (refine m_effn rfl ?_ e_storeW; rintro _ _ rfl; refine m_go ?_ (hE := by first | exact fun h => absurd h (by decide) | exact fun _ => Ent.refl | exact fun _ => Go.Eng.Ent.cellC)) | (refine m_effn rfl ?_ e_storeA; rintro _ _ rfl; refine m_go ?_ (hE := by first | exact fun h => absurd h (by decide) | exact fun _ => Ent.refl | exact fun _ => Go.Eng.Ent.cellC)))
            refine St.imp ?_
            refine mo_pre ?_
            (first | refine m_val rfl ?_ v_nilCheck | refine m_val rfl ?_ v_nilCheckF)
            (first | refine m_val rfl ?_ v_field | refine m_val rfl ?_ v_fieldE | refine m_val rfl ?_ v_field0)
            (first | refine m_val rfl ?_ v_field | refine m_val rfl ?_ v_fieldE | refine m_val rfl ?_ v_field0)
            (first | refine m_val rfl ?_ v_field | refine m_val rfl ?_ v_fieldE | refine m_val rfl ?_ v_field0)
            (first | (refine m_effn rfl ?_ e_store; rintro _ _ rfl; refine m_go ?_ (hE := by first | exact fun h => absurd h (by decide) | exact fun _ => Ent.refl | exact fun _ => Go.Eng.Ent.cellC)) | (refine m_effn rfl ?_ e_storeW; rintro _ _ rfl; refine m_go ?_ (hE := by first | exact fun h => absurd h (by decide) | exact fun _ => Ent.refl | exact fun _ => Go.Eng.Ent.cellC)) | (refine m_effn rfl ?_ e_storeA; rintro _ _ rfl; refine m_go ?_ (hE := by first | exact fun h => absurd h (by decide) | exact fun _ => Ent.refl | exact fun _ => Go.Eng.Ent.cellC)))
            refine St.imp ?_
            exact a_weak (J (y, g1, g2) hy)
      refine mo_fork ?_ ?_
      · refine mo_pre ?_
        (refine m_eff rfl ?_ ((e_make (hb := by show _ * 8 ≤ _ ∧ _; constructor <;> omega))); rintro _ _ ⟨g1, rfl, rfl⟩; refine m_go ?_ (hE := by first | exact fun h => absurd h (by decide) | exact fun _ => Ent.refl | exact fun _ => Go.Eng.Ent.cellC))
        refine St.imp ?_
        refine mo_fork ?_ ?_
        · refine mo_pre ?_
          (refine m_eff rfl ?_ (e_buildSlice1); rintro _ _ ⟨g5, rfl, rfl⟩; refine m_go ?_ (hE := by first | exact fun h => absurd h (by decide) | exact fun _ => Ent.refl | exact fun _ => Go.Eng.Ent.cellC))
          refine St.imp ?_
          refine mo_fork ?_ ?_
          · refine mo_pre ?_
            (refine m_eff rfl ?_ (e_callN rfl rfl fun w hw => (haveI := Sl.blk1 (hw := hw) (enc := ints) (s := 1) (w := w) (Bs := []) (g := g5) (R.log.p.endI + 1); repeat_m g5 3 (R.log.p.endI + 1) R.nodes hn w)); rintro _ _ ⟨_, ⟨y, hy, rfl, rfl⟩, rfl⟩; simp only [List.cons_append, List.nil_append]; refine m_go ?_ (hE := by first | exact fun h => absurd h (by decide) | exact fun _ => Ent.refl | exact fun _ => Go.Eng.Ent.cellC))
            refine St.imp ?_
            refine mo_pre ?_
            (first | refine m_val rfl ?_ v_nilCheck | refine m_val rfl ?_ v_nilCheckF)
            (first | refine m_val rfl ?_ v_field | refine m_val rfl ?_ v_fieldE | refine m_val rfl ?_ v_field0)
            (first | refine m_val rfl ?_ v_field | refine m_val rfl ?_ v_fieldE | refine m_val rfl ?_ v_field0)
            (first | refine m_val rfl ?_ v_field | refine m_val rfl ?_ v_fieldE | refine m_val rfl ?_ v_field0)
            refine St.imp ?_
            refine mo_fork ?_ ?_
            · refine mo_pre ?_
              (refine m_eff rfl ?_ ((e_make (hb := by show _ * 8 ≤ _ ∧ _; constructor <;> omega))); rintro _ _ ⟨g2, rfl, rfl⟩; refine m_go ?_ (hE := by first | exact fun h => absurd h (by decide) | exact fun _ => Ent.refl | exact fun _ => Go.Eng.Ent.cellC))
              refine St.imp ?_
              refine mo_pre ?_
              (first | (refine m_effn rfl ?_ e_store; rintro _ _ rfl; refine m_go ?_ (hE := by first | exact fun h => absurd h (by decide) | exact fun _ => Ent.refl | exact fun _ => Go.Eng.Ent.cellC)) | (refine m_effn rfl ?_ e_storeW; rintro _ _ rfl; refine m_go ?_ (hE := by first | exact fun h => absurd h (by decide) | exact fun _ => Ent.refl | exact fun _ => Go.Eng.Ent.cellC)) | (refine m_effn rfl ?_ e_storeA; rintro _ _ rfl; refine m_go ?_ (hE := by first | exact fun h => absurd h (by decide) | exact fun _ => Ent.refl | exact fun _ => Go.Eng.Ent.cellC)))
              refine St.imp ?_
              refine mo_pre ?_
              (first | refine m_val rfl ?_ v_nilCheck | refine m_val rfl ?_ v_nilCheckF)
              (first | refine m_val rfl ?_ v_field | refine m_val rfl ?_ v_fieldE | refine m_val rfl ?_ v_field0)
              (first | refine m_val rfl ?_ v_field | refine m_val rfl ?_ v_fieldE | refine m_val rfl ?_ v_field0)
              (first | refine m_val rfl ?_ v_field | refine m_val rfl ?_ v_fieldE | refine m_val rfl ?_ v_field0)
              (first | (refine m_effn rfl ?_ e_store; rintro _ _ rfl; refine m_go ?_ (hE := by first | exact fun h => absurd h (by decide) | exact fun _ => Ent.refl | exact fun _ => Go.Eng.Ent.cellC)) | (refine m_effn rfl ?_ e_storeW; rintro _ _ rfl; refine m_go ?_ (hE := by first | exact fun h => absurd h (by decide) | exact fun _ => Ent.refl | exact fun _ => Go.Eng.Ent.cellC)) | (refine m_effn rfl ?_ e_storeA; rintro _ _ rfl; refine m_go ?_ (hE := by first | exact fun h => absurd h (by decide) | exact fun _ => Ent.refl | exact fun _ => Go.Eng.Ent.cellC)))
              refine St.imp ?_
              refine mo_pre ?_
              (first | refine m_val rfl ?_ v_nilCheck | refine m_val rfl ?_ v_nilCheckF)
              (first | refine m_val rfl ?_ v_field | refine m_val rfl ?_ v_fieldE | refine m_val rfl ?_ v_field0)
              (first | refine m_val rfl ?_ v_field | refine m_val rfl ?_ v_fieldE | refine m_val rfl ?_ v_field0)
              (first | refine m_val rfl ?_ v_field | refine m_val rfl ?_ v_fieldE | refine m_val rfl ?_ v_field0)
              (first | (refine m_effn rfl ?_ e_store; rintro _ _ rfl; refine m_go ?_ (hE := by first | exact fun h => absurd h (by decide) | exact fun _ => Ent.refl | exact fun _ => Go.Eng.Ent.cellC)) | (refine m_effn rfl ?_ e_storeW; rintro _ _ rfl; refine m_go ?_ (hE := by first | exact fun h => absurd h (by decide) | exact fun _ => Ent.refl | exact fun _ => Go.Eng.Ent.cellC)) | (refine m_effn rfl ?_ e_storeA; rintro _ _ rfl; refine m_go ?_ (hE := by first | exact fun h => absurd h (by decide) | exact fun _ => Ent.refl | exact fun _ => Go.Eng.Ent.cellC)))
              refine St.imp ?_
              exact a_weak (J (y, g1, g2) hy)
            · refine mo_pre ?_
              (first | (refine m_effn rfl ?_ e_store; rintro _ _ rfl; refine m_go ?_ (hE := by first | exact fun h => absurd h (by decide) | exact fun _ => Ent.refl | exact fun _ => Go.Eng.Ent.cellC)) | (refine m_effn rfl ?_ e_storeW; rintro _ _ rfl; refine m_go ?_ (hE := by first | exact fun h => absurd h (by decide) | exact fun _ => Ent.refl | exact fun _ => Go.Eng.Ent.cellC)) | (refine m_effn rfl ?_ e_storeA; rintro _ _ rfl; refine m_go ?_ (hE := by first | exact fun h => absurd h (by decide) | exact fun _ => Ent.refl | exact fun _ => Go.Eng.Ent.cellC)))
              refine St.imp ?_
              refine mo_pre ?_
              (first | refine m_val rfl ?_ v_nilCheck | refine m_val rfl ?_ v_nilCheckF)
              (first | refine m_val rfl ?_ v_field | refine m_val rfl ?_ v_fieldE | refine m_val rfl ?_ v_field0)
              (first | refine m_val rfl ?_ v_field | refine m_val rfl ?_ v_fieldE | refine m_val rfl ?_ v_field0)
              (first | refine m_val rfl ?_ v_field | refine m_val rfl ?_ v_fieldE | refine m_val rfl ?_ v_field0)
              refine St.imp ?_
              refine mo_fork ?_ ?_
              · refine mo_pre ?_
                (refine m_eff rfl ?_ ((e_make (hb := by show _ * 8 ≤ _ ∧ _; constructor <;> omega))); rintro _ _ ⟨g2, rfl, rfl⟩; refine m_go ?_ (hE := by first | exact fun h => absurd h (by decide) | exact fun _ => Ent.refl | exact fun _ => Go.Eng.Ent.cellC))
                refine St.imp ?_
                refine mo_pre ?_
                (first | (refine m_effn rfl ?_ e_store; rintro _ _ rfl; refine m_go ?_ (hE := by first | exact fun h => absurd h (by decide) | exact fun _ => Ent.refl | exact fun _ => Go.Eng.Ent.cellC)) | (refine m_effn rfl ?_ e_storeW; rintro _ _ rfl; refine m_go ?_ (hE := by first | exact fun h => absurd h (by decide) | exact fun _ => Ent.refl | exact fun _ => Go.Eng.Ent.cellC)) | (refine m_effn rfl ?_ e_storeA; rintro _ _ rfl; refine m_go ?_ (hE := by first | exact fun h => absurd h (by decide) | exact fun _ => Ent.refl | exact fun _ => Go.Eng.Ent.cellC)))
                refine St.imp ?_
                refine mo_pre ?_
                (first | refine m_val rfl ?_ v_nilCheck | refine m_val rfl ?_ v_nilCheckF)
                (first | refine m_val rfl ?_ v_field | refine m_val rfl ?_ v_fieldE | refine m_val rfl ?_ v_field0)
                (first | refine m_val rfl ?_ v_field | refine m_val rfl ?_ v_fieldE | refine m_val rfl ?_ v_field0)
                (first | refine m_val rfl ?_ v_field | refine m_val rfl ?_ v_fieldE | refine m_val rfl ?_ v_field0)
                (first | (refine m_effn rfl ?_ e_store; rintro _ _ rfl; refine m_go ?_ (hE := by first | exact fun h => absurd h (by decide) | exact fun _ => Ent.refl | exact fun _ => Go.Eng.Ent.cellC)) | (refine m_effn rfl ?_ e_storeW; rintro _ _ rfl; refine m_go ?_ (hE := by first | exact fun h => absurd h (by decide) | exact fun _ => Ent.refl | exact fun _ => Go.Eng.Ent.cellC)) | (refine m_effn rfl ?_ e_storeA; rintro _ _ rfl; refine m_go ?_ (hE := by first | exact fun h => absurd h (by decide) | exact fun _ => Ent.refl | exact fun _ => Go.Eng.Ent.cellC)))
                refine St.imp ?_
                exact a_weak (J (y, g1, g2) hy)
              · refine mo_pre ?_
                (first | (refine m_effn rfl ?_ e_store; rintro _ _ rfl; refine m_go ?_ (hE := by first | exact fun h => absurd h (by decide) | exact fun _ => Ent.refl | exact fun _ => Go.Eng.Ent.cellC)) | (refine m_effn rfl ?_ e_storeW; rintro _ _ rfl; refine m_go ?_ (hE := by first | exact fun h => absurd h (by decide) | exact fun _ => Ent.refl | exact fun _ => Go.Eng.Ent.cellC)) | (refine m_effn rfl ?_ e_storeA; rintro _ _ rfl; refine m_go ?_ (hE := by first | exact fun h => absurd h (by decide) | exact fun _ => Ent.refl | exact fun _ => Go.Eng.Ent.cellC)))
                refine St.imp ?_
                refine mo_pre ?_
                (refine m_eff rfl ?_ ((e_make (hb := by show _ * 8 ≤ _ ∧ _; constructor <;> omega))); rintro _ _ ⟨g2, rfl, rfl⟩; refine m_go ?_ (hE := by first | exact fun h => absurd h (by decide) | exact fun _ => Ent.refl | exact fun _ => Go.Eng.Ent.cellC))
                refine St.imp ?_
                refine mo_pre ?_
                (first | refine m_val rfl ?_ v_nilCheck | refine m_val rfl ?_ v_nilCheckF)
                (first | refine m_val rfl ?_ v_field | refine m_val rfl ?_ v_fieldE | refine m_val rfl ?_ v_field0)
                (first | refine m_val rfl ?_ v_field | refine m_val rfl ?_ v_fieldE | refine m_val rfl ?_ v_field0)
                (first | refine m_val rfl ?_ v_field | refine m_val rfl ?_ v_fieldE | refine m_val rfl ?_ v_field0)
                (first | (refine m_effn rfl ?_ e_store; rintro _ _ rfl; refine m_go ?_ (hE := by first | exact fun h => absurd h (by decide) | exact fun _ => Ent.refl | exact fun _ => Go.Eng.Ent.cellC)) | (refine m_effn rfl ?_ e_storeW; rintro _ _ rfl; refine m_go ?_ (hE := by first | exact fun h => absurd h (by decide) | exact fun _ => Ent.refl | exact fun _ => Go.Eng.Ent.cellC)) | (refine m_effn rfl ?_ e_storeA; rintro _ _ rfl; refine m_go ?_ (hE := by first | exact fun h => absurd h (by decide) | exact fun _ => Ent.refl | exact fun _ => Go.Eng.Ent.cellC)))
                refine St.imp ?_
                exact a_weak (J (y, g1, g2) hy)
          · refine mo_pre ?_
            (refine m_eff rfl ?_ ((e_make (hb := by show _ * 8 ≤ _ ∧ _; constructor <;> omega))); rintro _ _ ⟨g2, rfl, rfl⟩; refine m_go ?_ (hE := by first | exact fun h => absurd h (by decide) | exact fun _ => Ent.refl | exact fun _ => Go.Eng.Ent.cellC))
            refine St.imp ?_
            refine mo_pre ?_
            (refine m_eff rfl ?_ (e_callN rfl rfl fun w hw => (haveI := Sl.blk1 (hw := hw) (enc := ints) (s := 1) (w := w) (Bs := []) (g := g5) (R.log.p.endI + 1); repeat_m g5 3 (R.log.p.endI + 1) R.nodes hn w)); rintro _ _ ⟨_, ⟨y, hy, rfl, rfl⟩, rfl⟩; simp only [List.cons_append, List.nil_append]; refine m_go ?_ (hE := by first | exact fun h => absurd h (by decide) | exact fun _ => Ent.refl | exact fun _ => Go.Eng.Ent.cellC))
            refine St.imp ?_
            refine mo_pre ?_
            (first | refine m_val rfl ?_ v_nilCheck | refine m_val rfl ?_ v_nilCheckF)
            (first | refine m_val rfl ?_ v_field | refine m_val rfl ?_ v_fieldE | refine m_val rfl ?_ v_field0)
            (first | refine m_val rfl ?_ v_field | refine m_val rfl ?_ v_fieldE | refine m_val rfl ?_ v_field0)
            (first | refine m_val rfl ?_ v_field | refine m_val rfl ?_ v_fieldE | refine m_val rfl ?_ v_field0)
            (first | (refine m_effn rfl ?_ e_store; rintro _ _ rfl; refine m_go ?_ (hE := by first | exact fun h => absurd h (by decide) | exact fun _ => Ent.refl | exact fun _ => Go.Eng.Ent.cellC)) | (refine m_effn rfl ?_ e_storeW; rintro _ _ rfl; refine m_go ?_ (hE := by first | exact fun h => absurd h (by decide) | exact fun _ => Ent.refl | exact fun _ => Go.Eng.Ent.cellC)) | (refine m_effn rfl ?_ e_storeA; rintro _ _ rfl; refine m_go ?_ (hE := by first | exact fun h => absurd h (by decide) | exact fun _ => Ent.refl | exact fun _ => Go.Eng.Ent.cellC)))
            refine St.imp ?_
            refine mo_pre ?_
            (first | refine m_val rfl ?_ v_nilCheck | refine m_val rfl ?_ v_nilCheckF)
            (first | refine m_val rfl ?_ v_field | refine m_val rfl ?_ v_fieldE | refine m_val rfl ?_ v_field0)
            (first | refine m_val rfl ?_ v_field | refine m_val rfl ?_ v_fieldE | refine m_val rfl ?_ v_field0)
            (first | refine m_val rfl ?_ v_field | refine m_val rfl ?_ v_fieldE | refine m_val rfl ?_ v_field0)
            (first | (refine m_effn rfl ?_ e_store; rintro _ _ rfl; refine m_go ?_ (hE := by first | exact fun h => absurd h (by decide) | exact fun _ => Ent.refl | exact fun _ => Go.Eng.Ent.cellC)) | (refine m_effn rfl ?_ e_storeW; rintro _ _ rfl; refine m_go ?_ (hE := by first | exact fun h => absurd h (by decide) | exact fun _ => Ent.refl | exact fun _ => Go.Eng.Ent.cellC)) | (refine m_effn rfl ?_ e_storeA; rintro _ _ rfl; refine m_go ?_ (hE := by first | exact fun h => absurd h (by decide) | exact fun _ => Ent.refl | exact fun _ => Go.Eng.Ent.cellC)))
            refine St.imp ?_
            refine mo_pre ?_
            (first | refine m_val rfl ?_ v_nilCheck | refine m_val rfl ?_ v_nilCheckF)
            (first | refine m_val rfl ?_ v_field | refine m_val rfl ?_ v_fieldE | refine m_val rfl ?_ v_field0)
            (first | refine m_val rfl ?_ v_field | refine m_val rfl ?_ v_fieldE | refine m_val rfl ?_ v_field0)
            (first | refine m_val rfl ?_ v_field | refine m_val rfl ?_ v_fieldE | refine m_val rfl ?_ v_field0)
            (first | (refine m_effn rfl ?_ e_store; rintro _ _ rfl; refine m_go ?_ (hE := by first | exact fun h => absurd h (by decide) | exact fun _ => Ent.refl | exact fun _ => Go.Eng.Ent.cellC)) | (refine m_effn rfl ?_ e_storeW; rintro _ _ rfl; refine m_go ?_ (hE := by first | exact fun h => absurd h (by decide) | exact fun _ => Ent.refl | exact fun _ => Go.Eng.Ent.cellC)) | (refine m_effn rfl ?_ e_storeA; rintro _ _ rfl; refine m_go ?_ (hE := by first | exact fun h => absurd h (by decide) | exact fun _ => Ent.refl | exact fun _ => Go.Eng.Ent.cellC)))
            refine St.imp ?_
            exact a_weak (J (y, g1, g2) hy)
        · refine mo_pre ?_
          (refine m_eff rfl ?_ ((e_make (hb := by show _ * 8 ≤ _ ∧ _; constructor <;> omega))); rintro _ _ ⟨g2, rfl, rfl⟩; refine m_go ?_ (hE := by first | exact fun h => absurd h (by decide) | exact fun _ => Ent.refl | exact fun _ => Go.Eng.Ent.cellC))
          refine St.imp ?_
          refine mo_pre ?_
          (refine m_eff rfl ?_ (e_buildSlice1); rintro _ _ ⟨g5, rfl, rfl⟩; refine m_go ?_ (hE := by first | exact fun h => absurd h (by decide) | exact fun _ => Ent.refl | exact fun _ => Go.Eng.Ent.cellC))
          refine St.imp ?_
          refine mo_pre ?_
          (refine m_eff rfl ?_ (e_callN rfl rfl fun w hw => (haveI := Sl.blk1 (hw := hw) (enc := ints) (s := 1) (w := w) (Bs := []) (g := g5) (R.log.p.endI + 1); repeat_m g5 3 (R.log.p.endI + 1) R.nodes hn w)); rintro _ _ ⟨_, ⟨y, hy, rfl, rfl⟩, rfl⟩; simp only [List.cons_append, List.nil_append]; refine m_go ?_ (hE := by first | exact fun h => absurd h (by decide) | exact fun _ => Ent.refl | exact fun _ => Go.Eng.Ent.cellC))
          refine St.imp ?_
          refine mo_pre ?_
          (first | refine m_val rfl ?_ v_nilCheck | refine m_val rfl ?_ v_nilCheckF)
          (first | refine m_val rfl ?_ v_field | refine m_val rfl ?_ v_fieldE | refine m_val rfl ?_ v_field0)
          (first | refine m_val rfl ?_ v_field | refine m_val rfl ?_ v_fieldE | refine m_val rfl ?_ v_field0)
          (first | refine m_val rfl ?_ v_field | refine m_val rfl ?_ v_fieldE | refine m_val rfl ?_ v_field0)
          (first | (refine m_effn rfl ?_ e_store; rintro _ _ rfl; refine m_go ?_ (hE := by first | exact fun h => absurd h (by decide) | exact fun _ => Ent.refl | exact fun _ => Go.Eng.Ent.cellC)) | (refine m_effn rfl ?_ e_storeW; rintro _ _ rfl; refine m_go ?_ (hE := by first | exact fun h => absurd h (by decide) | exact fun _ => Ent.refl | exact fun _ => Go.Eng.Ent.cellC)) | (refine m_effn rfl ?_ e_storeA; rintro _ _ rfl; refine m_go ?_ (hE := by first | exact fun h => absurd h (by decide) | exact fun _ => Ent.refl | exact fun _ => Go.Eng.Ent.cellC)))
          refine St.imp ?_
          refine mo_pre ?_
          (first | refine m_val rfl ?_ v_nilCheck | refine m_val rfl ?_ v_nilCheckF)
          (first | refine m_val rfl ?_ v_field | refine m_val rfl ?_ v_fieldE | refine m_val rfl ?_ v_field0)
          (first | refine m_val rfl ?_ v_field | refine m_val rfl ?_ v_fieldE | refine m_val rfl ?_ v_field0)
          (first | refine m_val rfl ?_ v_field | refine m_val rfl ?_ v_fieldE | refine m_val rfl ?_ v_field0)
          (first | (refine m_effn rfl ?_ e_store; rintro _ _ rfl; refine m_go ?_ (hE := by first | exact fun h => absurd h (by decide) | exact fun _ => Ent.refl | exact fun _ => Go.Eng.Ent.cellC)) | (refine m_effn rfl ?_ e_storeW; rintro _ _ rfl; refine m_go ?_ (hE := by first | exact fun h => absurd h (by decide) | exact fun _ => Ent.refl | exact fun _ => Go.Eng.Ent.cellC)) | (refine m_effn rfl ?_ e_storeA; rintro _ _ rfl; refine m_go ?_ (hE := by first | exact fun h => absurd h (by decide) | exact fun _ => Ent.refl | exact fun _ => Go.Eng.Ent.cellC)))
          refine St.imp ?_
          refine mo_pre ?_
          (first | refine m_val rfl ?_ v_nilCheck | refine m_val rfl ?_ v_nilCheckF)
          (first | refine m_val rfl ?_ v_field | refine m_val rfl ?_ v_fieldE | refine m_val rfl ?_ v_field0)
          (first | refine m_val rfl ?_ v_field | refine m_val rfl ?_ v_fieldE | refine m_val rfl ?_ v_field0)
          (first | refine m_val rfl ?_ v_field | refine m_val rfl ?_ v_fieldE | refine m_val rfl ?_ v_field0)
          (first | (refine m_effn rfl ?_ e_store; rintro _ _ rfl; refine m_go ?_ (hE := by first | exact fun h => absurd h (by decide) | exact fun _ => Ent.refl | exact fun _ => Go.Eng.Ent.cellC)) | (refine m_effn rfl ?_ e_storeW; rintro _ _ rfl; refine m_go ?_ (hE := by first | exact fun h => absurd h (by decide) | exact fun _ => Ent.refl | exact fun _ => Go.Eng.Ent.cellC)) | (refine m_effn rfl ?_ e_storeA; rintro _ _ rfl; refine m_go ?_ (hE := by first | exact fun h => absurd h (by decide) | exact fun _ => Ent.refl | exact fun _ => Go.Eng.Ent.cellC)))
          refine St.imp ?_
          exact a_weak (J (y, g1, g2) hy)
      · refine mo_pre ?_
        (refine m_eff rfl ?_ ((e_make (hb := by show _ * 8 ≤ _ ∧ _; constructor <;> omega))); rintro _ _ ⟨g2, rfl, rfl⟩; refine m_go ?_ (hE := by first | exact fun h => absurd h (by decide) | exact fun _ => Ent.refl | exact fun _ => Go.Eng.Ent.cellC))
        refine St.imp ?_
        refine mo_fork ?_ ?_
        · refine mo_pre ?_
          (refine m_eff rfl ?_ (e_buildSlice1); rintro _ _ ⟨g5, rfl, rfl⟩; refine m_go ?_ (hE := by first | exact fun h => absurd h (by decide) | exact fun _ => Ent.refl | exact fun _ => Go.Eng.Ent.cellC))
          refine St.imp ?_
          refine mo_fork ?_ ?_
          · refine mo_pre ?_
            (refine m_eff rfl ?_ (e_callN rfl rfl fun w hw => (haveI := Sl.blk1 (hw := hw) (enc := ints) (s := 1) (w := w) (Bs := []) (g := g5) (R.log.p.endI + 1); repeat_m g5 3 (R.log.p.endI + 1) R.nodes hn w)); rintro _ _ ⟨_, ⟨y, hy, rfl, rfl⟩, rfl⟩; simp only [List.cons_append, List.nil_append]; refine m_go ?_ (hE := by first | exact fun h => absurd h (by decide) | exact fun _ => Ent.refl | exact fun _ => Go.Eng.Ent.cellC))
            refine St.imp ?_
            refine mo_pre ?_
            (first | refine m_val rfl ?_ v_nilCheck | refine m_val rfl ?_ v_nilCheckF)
            (first | refine m_val rfl ?_ v_field | refine m_val rfl ?_ v_fieldE | refine m_val rfl ?_ v_field0)
            (first | refine m_val rfl ?_ v_field | refine m_val rfl ?_ v_fieldE | refine m_val rfl ?_ v_field0)
            (first | refine m_val rfl ?_ v_field | refine m_val rfl ?_ v_fieldE | refine m_val rfl ?_ v_field0)
            refine St.imp ?_
            refine mo_fork ?_ ?_
            · refine mo_pre ?_
              (refine m_eff rfl ?_ ((e_make (hb := by show _ * 8 ≤ _ ∧ _; constructor <;> omega))); rintro _ _ ⟨g1, rfl, rfl⟩; refine m_go ?_ (hE := by first | exact fun h => absurd h (by decide) | exact fun _ => Ent.refl | exact fun _ => Go.Eng.Ent.cellC))
              refine St.imp ?_
              refine mo_pre ?_
              (first | (refine m_effn rfl ?_ e_store; rintro _ _ rfl; refine m_go ?_ (hE := by first | exact fun h => absurd h (by decide) | exact fun _ => Ent.refl | exact fun _ => Go.Eng.Ent.cellC)) | (refine m_effn rfl ?_ e_storeW; rintro _ _ rfl; refine m_go ?_ (hE := by first | exact fun h => absurd h (by decide) | exact fun _ => Ent.refl | exact fun _ => Go.Eng.Ent.cellC)) | (refine m_effn rfl ?_ e_storeA; rintro _ _ rfl; refine m_go ?_ (hE := by first | exact fun h => absurd h (by decide) | exact fun _ => Ent.refl | exact fun _ => Go.Eng.Ent.cellC)))
              refine St.imp ?_
              refine mo_pre ?_
              (first | refine m_val rfl ?_ v_nilCheck | refine m_val rfl ?_ v_nilCheckF)
              (first | refine m_val rfl ?_ v_field | refine m_val rfl ?_ v_fieldE | refine m_val rfl ?_ v_field0)
              (first | refine m_val rfl ?_ v_field | refine m_val rfl ?_ v_fieldE | refine m_val rfl ?_ v_field0)
              (first | refine m_val rfl ?_ v_field | refine m_val rfl ?_ v_fieldE | refine m_val rfl ?_ v_field0)
              (first | (refine m_effn rfl ?_ e_store; rintro _ _ rfl; refine m_go ?_ (hE := by first | exact fun h => absurd h (by decide) | exact fun _ => Ent.refl | exact fun _ => Go.Eng.Ent.cellC)) | (refine m_effn rfl ?_ e_storeW; rintro _ _ rfl; refine m_go ?_ (hE := by first | exact fun h => absurd h (by decide) | exact fun _ => Ent.refl | exact fun _ => Go.Eng.Ent.cellC)) | (refine m_effn rfl ?_ e_storeA; rintro _ _ rfl; refine m_go ?_ (hE := by first | exact fun h => absurd h (by decide) | exact fun _ => Ent.refl | exact fun _ => Go.Eng.Ent.cellC)))
              refine St.imp ?_
              refine mo_pre ?_
              (first | refine m_val rfl ?_ v_nilCheck | refine m_val rfl ?_ v_nilCheckF)
              (first | refine m_val rfl ?_ v_field | refine m_val rfl ?_ v_fieldE | refine m_val rfl ?_ v_field0)
              (first | refine m_val rfl ?_ v_field | refine m_val rfl ?_ v_fieldE | refine m_val rfl ?_ v_field0)
              (first | refine m_val rfl ?_ v_field | refine m_val rfl ?_ v_fieldE | refine m_val rfl ?_ v_field0)
              (first | (refine m_effn rfl ?_ e_store; rintro _ _ rfl; refine m_go ?_ (hE := by first | exact fun h => absurd h (by decide) | exact fun _ => Ent.refl | exact fun _ => Go.Eng.Ent.cellC)) | (refine m_effn rfl ?_ e_storeW; rintro _ _ rfl; refine m_go ?_ (hE := by first | exact fun h => absurd h (by decide) | exact fun _ => Ent.refl | exact fun _ => Go.Eng.Ent.cellC)) | (refine m_effn rfl ?_ e_storeA; rintro _ _ rfl; refine m_go ?_ (hE := by first | exact fun h => absurd h (by decide) | exact fun _ => Ent.refl | exact fun _ => Go.Eng.Ent.cellC)))
              refine St.imp ?_
              exact a_weak (J (y, g1, g2) hy)
            · refine mo_pre ?_
              (first | (refine m_effn rfl ?_ e_store; rintro _ _ rfl; refine m_go ?_ (hE := by first | exact fun h => absurd h (by decide) | exact fun _ => Ent.refl | exact fun _ => Go.Eng.Ent.cellC)) | (refine m_effn rfl ?_ e_storeW; rintro _ _ rfl; refine m_go ?_ (hE := by first | exact fun h => absurd h (by decide) | exact fun _ => Ent.refl | exact fun _ => Go.Eng.Ent.cellC)) | (refine m_effn rfl ?_ e_storeA; rintro _ _ rfl; refine m_go ?_ (hE := by first | exact fun h => absurd h (by decide) | exact fun _ => Ent.refl | exact fun _ => Go.Eng.Ent.cellC)))
              refine St.imp ?_
              refine mo_pre ?_
              (refine m_eff rfl ?_ ((e_make (hb := by show _ * 8 ≤ _ ∧ _; constructor <;> omega))); rintro _ _ ⟨g1, rfl, rfl⟩; refine m_go ?_ (hE := by first | exact fun h => absurd h (by decide) | exact fun _ => Ent.refl | exact fun _ => Go.Eng.Ent.cellC))
              refine St.imp ?_
              refine mo_pre ?_
              (first | refine m_val rfl ?_ v_nilCheck | refine m_val rfl ?_ v_nilCheckF)
              (first | refine m_val rfl ?_ v_field | refine m_val rfl ?_ v_fieldE | refine m_val rfl ?_ v_field0)
              (first | refine m_val rfl ?_ v_field | refine m_val rfl ?_ v_fieldE | refine m_val rfl ?_ v_field0)
              (first | refine m_val rfl ?_ v_field | refine m_val rfl ?_ v_fieldE | refine m_val rfl ?_ v_field0)
              (first | (refine m_effn rfl ?_ e_store; rintro _ _ rfl; refine m_go ?_ (hE := by first | exact fun h => absurd h (by decide) | exact fun _ => Ent.refl | exact fun _ => Go.Eng.Ent.cellC)) | (refine m_effn rfl ?_ e_storeW; rintro _ _ rfl; refine m_go ?_ (hE := by first | exact fun h => absurd h (by decide) | exact fun _ => Ent.refl | exact fun _ => Go.Eng.Ent.cellC)) | (refine m_effn rfl ?_ e_storeA; rintro _ _ rfl; refine m_go ?_ (hE := by first | exact fun h => absurd h (by decide) | exact fun _ => Ent.refl | exact fun _ => Go.Eng.Ent.cellC)))
              refine St.imp ?_
              refine mo_pre ?_
              (first | refine m_val rfl ?_ v_nilCheck | refine m_val rfl ?_ v_nilCheckF)
              (first | refine m_val rfl ?_ v_field | refine m_val rfl ?_ v_fieldE | refine m_val rfl ?_ v_field0)
              (first | refine m_val rfl ?_ v_field | refine m_val rfl ?_ v_fieldE | refine m_val rfl ?_ v_field0)
              (first | refine m_val rfl ?_ v_field | refine m_val rfl ?_ v_fieldE | refine m_val rfl ?_ v_field0)
              (first | (refine m_effn rfl ?_ e_store; rintro _ _ rfl; refine m_go ?_ (hE := by first | exact fun h => absurd h (by decide) | exact fun _ => Ent.refl | exact fun _ => Go.Eng.Ent.cellC)) | (refine m_effn rfl ?_ e_storeW; rintro _ _ rfl; refine m_go ?_ (hE := by first | exact fun h => absurd h (by decide) | exact fun _ => Ent.refl | exact fun _ => Go.Eng.Ent.cellC)) | (refine m_effn rfl ?_ e_storeA; rintro _ _ rfl; refine m_go ?_ (hE := by first | exact fun h => absurd h (by decide) | exact fun _ => Ent.refl | exact fun _ => Go.Eng.Ent.cellC)))
              refine St.imp ?_
              exact a_weak (J (y, g1, g2) hy)
          · refine mo_pre ?_
            (refine m_eff rfl ?_ ((e_make (hb := by show _ * 8 ≤ _ ∧ _; constructor <;> omega))); rintro _ _ ⟨g1, rfl, rfl⟩; refine m_go ?_ (hE := by first | exact fun h => absurd h (by decide) | exact fun _ => Ent.refl | exact fun _ => Go.Eng.Ent.cellC))
            refine St.imp ?_
            refine mo_pre ?_
            (refine m_eff rfl ?_ (e_callN rfl rfl fun w hw => (haveI := Sl.blk1 (hw := hw) (enc := ints) (s := 1) (w := w) (Bs := []) (g := g5) (R.log.p.endI + 1); repeat_m g5 3 (R.log.p.endI + 1) R.nodes hn w)); rintro _ _ ⟨_, ⟨y, hy, rfl, rfl⟩, rfl⟩; simp only [List.cons_append, List.nil_append]; refine m_go ?_ (hE := by first | exact fun h => absurd h (by decide) | exact fun _ => Ent.refl | exact fun _ => Go.Eng.Ent.cellC))
            refine St.imp ?_
            refine mo_pre ?_
            (first | refine m_val rfl ?_ v_nilCheck | refine m_val rfl ?_ v_nilCheckF)
            (first | refine m_val rfl ?_ v_field | refine m_val rfl ?_ v_fieldE | refine m_val rfl ?_ v_field0)
            (first | refine m_val rfl ?_ v_field | refine m_val rfl ?_ v_fieldE | refine m_val rfl ?_ v_field0)
            (first | refine m_val rfl ?_ v_field | refine m_val rfl ?_ v_fieldE | refine m_val rfl ?_ v_field0)
            (first | (refine m_effn rfl ?_ e_store; rintro _ _ rfl; refine m_go ?_ (hE := by first | exact fun h => absurd h (by decide) | exact fun _ => Ent.refl | exact fun _ => Go.Eng.Ent.cellC)) | (refine m_effn rfl ?_ e_storeW; rintro _ _ rfl; refine m_go ?_ (hE := by first | exact fun h => absurd h (by decide) | exact fun _ => Ent.refl | exact fun _ => Go.Eng.Ent.cellC)) | (refine m_effn rfl ?_ e_storeA; rintro _ _ rfl; refine m_go ?_ (hE := by first | exact fun h => absurd h (by decide) | exact fun _ => Ent.refl | exact fun _ => Go.Eng.Ent.cellC)))
            refine St.imp ?_
            refine mo_pre ?_
            (first | refine m_val rfl ?_ v_nilCheck | refine m_val rfl ?_ v_nilCheckF)
            (first | refine m_val rfl ?_ v_field | refine m_val rfl ?_ v_fieldE | refine m_val rfl ?_ v_field0)
            (first | refine m_val rfl ?_ v_field | refine m_val rfl ?_ v_fieldE | refine m_val rfl ?_ v_field0)
            (first | refine m_val rfl ?_ v_field | refine m_val rfl ?_ v_fieldE | refine m_val rfl ?_ v_field0)
            (first | (refine m_effn rfl ?_ e_store; rintro _ _ rfl; refine m_go ?_ (hE := by first | exact fun h => absurd h (by decide) | exact fun _ => Ent.refl | exact fun _ => Go.Eng.Ent.cellC)) | (refine m_effn rfl ?_ e_storeW; rintro _ _ rfl; refine m_go ?_ (hE := by first | exact fun h => absurd h (by decide) | exact fun _ => Ent.refl | exact fun _ => Go.Eng.Ent.cellC)) | (refine m_effn rfl ?_ e_storeA; rintro _ _ rfl; refine m_go ?_ (hE := by first | exact fun h => absurd h (by decide) | exact fun _ => Ent.refl | exact fun _ => Go.Eng.Ent.cellC)))
            refine St.imp ?_
            refine mo_pre ?_
            (first | refine m_val rfl ?_ v_nilCheck | refine m_val rfl ?_ v_nilCheckF)
            (first | refine m_val rfl ?_ v_field | refine m_val rfl ?_ v_fieldE | refine m_val rfl ?_ v_field0)
            (first | refine m_val rfl ?_ v_field | refine m_val rfl ?_ v_fieldE | refine m_val rfl ?_ v_field0)
            (first | refine m_val rfl ?_ v_field | refine m_val rfl ?_ v_fieldE | refine m_val rfl ?_ v_field0)
            (first | (refine m_effn rfl ?_ e_store; rintro _ _ rfl; refine m_go ?_ (hE := by first | exact fun h => absurd h (by decide) | exact fun _ => Ent.refl | exact fun _ => Go.Eng.Ent.cellC)) | (refine m_effn rfl ?_ e_storeW; rintro _ _ rfl; refine m_go ?_ (hE := by first | exact fun h => absurd h (by decide) | exact fun _ => Ent.refl | exact fun _ => Go.Eng.Ent.cellC)) | (refine m_effn rfl ?_ e_storeA; rintro _ _ rfl; refine m_go ?_ (hE := by first | exact fun h => absurd h (by decide) | exact fun _ => Ent.refl | exact fun _ => Go.Eng.Ent.cellC)))
            refine St.imp ?_
            exact a_weak (J (y, g1, g2) hy)
        · refine mo_pre ?_
          (refine m_eff rfl ?_ ((e_make (hb := by show _ * 8 ≤ _ ∧ _; constructor <;> omega))); rintro _ _ ⟨g1, rfl, rfl⟩; refine m_go ?_ (hE := by first | exact fun h => absurd h (by decide) | exact fun _ => Ent.refl | exact fun _ => Go.Eng.Ent.cellC))
          refine St.imp ?_
          refine mo_pre ?_
          (refine m_eff rfl ?_ (e_buildSlice1); rintro _ _ ⟨g5, rfl, rfl⟩; refine m_go ?_ (hE := by first | exact fun h => absurd h (by decide) | exact fun _ => Ent.refl | exact fun _ => Go.Eng.Ent.cellC))
          refine St.imp ?_
          refine mo_pre ?_
          (refine m_eff rfl ?_ (e_callN rfl rfl fun w hw => (haveI := Sl.blk1 (hw := hw) (enc := ints) (s := 1) (w := w) (Bs := []) (g := g5) (R.log.p.endI + 1); repeat_m g5 3 (R.log.p.endI + 1) R.nodes hn w)); rintro _ _ ⟨_, ⟨y, hy, rfl, rfl⟩, rfl⟩; simp only [List.cons_append, List.nil_append]; refine m_go ?_ (hE := by first | exact fun h => absurd h (by decide) | exact fun _ => Ent.refl | exact fun _ => Go.Eng.Ent.cellC))
          refine St.imp ?_
          refine mo_pre ?_
          (first | refine m_val rfl ?_ v_nilCheck | refine m_val rfl ?_ v_nilCheckF)
          (first | refine m_val rfl ?_ v_field | refine m_val rfl ?_ v_fieldE | refine m_val rfl ?_ v_field0)
          (first | refine m_val rfl ?_ v_field | refine m_val rfl ?_ v_fieldE | refine m_val rfl ?_ v_field0)
          (first | refine m_val rfl ?_ v_field | refine m_val rfl ?_ v_fieldE | refine m_val rfl ?_ v_field0)
          (first | (refine m_effn rfl ?_ e_store; rintro _ _ rfl; refine m_go ?_ (hE := by first | exact fun h => absurd h (by decide) | exact fun _ => Ent.refl | exact fun _ => Go.Eng.Ent.cellC)) | (refine m_effn rfl ?_ e_storeW; rintro _ _ rfl; refine m_go ?_ (hE := by first | exact fun h => absurd h (by decide) | exact fun _ => Ent.refl | exact fun _ => Go.Eng.Ent.cellC)) | (refine m_effn rfl ?_ e_storeA; rintro _ _ rfl; refine m_go ?_ (hE := by first | exact fun h => absurd h (by decide) | exact fun _ => Ent.refl | exact fun _ => Go.Eng.Ent.cellC)))
          refine St.imp ?_
          refine mo_pre ?_
          (first | refine m_val rfl ?_ v_nilCheck | refine m_val rfl ?_ v_nilCheckF)
          (first | refine m_val rfl ?_ v_field | refine m_val rfl ?_ v_fieldE | refine m_val rfl ?_ v_field0)
          (first | refine m_val rfl ?_ v_field | refine m_val rfl ?_ v_fieldE | refine m_val rfl ?_ v_field0)
          (first | refine m_val rfl ?_ v_field | refine m_val rfl ?_ v_fieldE | refine m_val rfl ?_ v_field0)
          (first | (refine m_effn rfl ?_ e_store; rintro _ _ rfl; refine m_go ?_ (hE := by first | exact fun h => absurd h (by decide) | exact fun _ => Ent.refl | exact fun _ => Go.Eng.Ent.cellC)) | (refine m_effn rfl ?_ e_storeW; rintro _ _ rfl; refine m_go ?_ (hE := by first | exact fun h => absurd h (by decide) | exact fun _ => Ent.refl | exact fun _ => Go.Eng.Ent.cellC)) | (refine m_effn rfl ?_ e_storeA; rintro _ _ rfl; refine m_go ?_ (hE := by first | exact fun h => absurd h (by decide) | exact fun _ => Ent.refl | exact fun _ => Go.Eng.Ent.cellC)))
          refine St.imp ?_
          refine mo_pre ?_
          (first | refine m_val rfl ?_ v_nilCheck | refine m_val rfl ?_ v_nilCheckF)
          (first | refine m_val rfl ?_ v_field | refine m_val rfl ?_ v_fieldE | refine m_val rfl ?_ v_field0)
          (first | refine m_val rfl ?_ v_field | refine m_val rfl ?_ v_fieldE | refine m_val rfl ?_ v_field0)
          (first | refine m_val rfl ?_ v_field | refine m_val rfl ?_ v_fieldE | refine m_val rfl ?_ v_field0)
          (first | (refine m_effn rfl ?_ e_store; rintro _ _ rfl; refine m_go ?_ (hE := by first | exact fun h => absurd h (by decide) | exact fun _ => Ent.refl | exact fun _ => Go.Eng.Ent.cellC)) | (refine m_effn rfl ?_ e_storeW; rintro _ _ rfl; refine m_go ?_ (hE := by first | exact fun h => absurd h (by decide) | exact fun _ => Ent.refl | exact fun _ => Go.Eng.Ent.cellC)) | (refine m_effn rfl ?_ e_storeA; rintro _ _ rfl; refine m_go ?_ (hE := by first | exact fun h => absurd h (by decide) | exact fun _ => Ent.refl | exact fun _ => Go.Eng.Ent.cellC)))
          refine St.imp ?_
          exact a_weak (J (y, g1, g2) hy)
    rintro ⟨y, g1, g2⟩ hy
    simp only at hy
    refine a_castK (Cs := [blkR b (crownQ R x y g1 g2) [out.v] u, rowI (crownQ R x y g1 g2).next, rowI (crownQ R x y g1 g2).mtch, rowI (crownQ R x y g1 g2).sent, rowM out, entsA out.l, rowE (crownQ R x y g1 g2).log.ents, rowR (crownQ R x y g1 g2).reads, acksA (crownQ R x y g1 g2).reads.l]) ?_ (by rw [crownB_eq, row0_eq, row0_eq])
    refine mo_nil ?_
    have hp := crown_p R x y g1 g2 hx hy hreads
    have hv : (crownQ R x y g1 g2).votes = nilI := rfl
    generalize crownQ R x y g1 g2 = Q at hp hv ⊢
    have hlq : Q.log.p = R.p.crown.log := congrArg Raft.log hp
    have hlogQ : logB Q.p.log = true := by rw [hp]; exact put_logB R.p hlog hfull ht hle
    have hidQ : Q.id = R.id := congrArg Raft.id hp
    have hnQ : Q.nodes = R.nodes := congrArg Raft.nodes hp
    have hmQ : Q.mtch.l = List.replicate R.nodes.toNat 0 := congrArg Raft.mtch hp
    have hsend : ∀ k, 1 ≤ k → k ≤ Q.nodes → Sendable Q.p k := fun k h1 h2 => by
      rw [hp]
      exact crown_send R.p hlog hfull ht hle hn hsz k h1 (by rw [hnQ] at h2; exact h2)
    have hendQ : 0 ≤ Q.log.p.endI := by
      have e : Q.log.p.endI = Q.log.base + Q.log.ents.l.length := log_end hlogQ
      have h := hlogQ
      simp [logB] at h
      have := h.1
      omega
    have hlcQ : LenC Q.log.ents.l := ⟨by have h := hlogQ; simp [logB] at h; have := h.2.2.2.1; omega⟩
    have hlcN : LenC Q.next.l := ⟨by have : Q.next.l = List.replicate R.nodes.toNat (R.p.log.endI + 1) := congrArg Raft.next hp; rw [this, List.length_replicate]; omega⟩
    have hlcS : LenC Q.sent.l := ⟨by have : Q.sent.l = List.replicate R.nodes.toNat 0 := congrArg Raft.sent hp; rw [this, List.length_replicate]; omega⟩
    repeat (first | refine St.imp ?_ | (refine st_seq ?_; intro K hK) | refine st_t ?_ | refine st_f ?_ | refine st_miss ?_)
    repeat (first | refine St.imp ?_ | (refine st_seq ?_; intro K hK) | refine st_t ?_ | refine st_f ?_ | refine st_miss ?_)
    refine a_val ?_ v_move
    refine a_val ?_ v_move
    refine a_val ?_ v_makeFunc
    (refine a_eff ?_ (e_callO (stepB b Q out u) rfl rfl fun w hw hb => others_m b Q out u 23 [ptrB b] [] (fun k => [Q.p.send k]) (fun k => by simp) (by rw [hnQ]; exact hn) (by omega) w hb (fun k o w' h1 h2 hne hlo hw hb => by haveI := hw; exact send_m b Q o u k w' hb (hsend k h1 h2) hlo)); rintro _ _ ⟨_, ⟨rfl, o1, ho1, rfl⟩, rfl⟩; simp only [List.cons_append, List.nil_append])
    repeat (first | refine St.imp ?_ | (refine st_seq ?_; intro K hK) | refine st_t ?_ | refine st_f ?_ | refine st_miss ?_)
    refine a_val ?_ v_move
    (first | refine a_val ?_ v_nilCheck | refine a_val ?_ v_nilCheckF)
    (first | refine a_val ?_ v_field | refine a_val ?_ v_fieldE | refine a_val ?_ v_field0)
    (refine a_eff ?_ (e_callO [blkR b Q [o1.v] u, rowI Q.mtch] rfl rfl fun w hw hb => settle_m b Q [o1.v] u w hb hlogQ (by rw [hidQ, hmQ, List.length_replicate]; omega) (fun x hx => by rw [hmQ] at hx; have := List.eq_of_mem_replicate hx; omega)); rintro _ _ ⟨_, ⟨rfl, m, c, hm, rfl⟩, rfl⟩; simp only [List.cons_append, List.nil_append])
    repeat (first | refine St.imp ?_ | (refine st_seq ?_; intro K hK) | refine st_t ?_ | refine st_f ?_ | refine st_miss ?_)
    refine tk_ent (ent_nilI hv) ?_
    first | refine a_retP (stepA b { Q with mtch := m, commit := c } o1 u) Try.results45 ?_ | refine a_endP (stepA b { Q with mtch := m, commit := c } o1 u) Try.results45 ?_
    refine ⟨rfl, _, _, ?_, rfl⟩
    simp only [leadF, hfull, Bool.false_eq_true, if_false]
    rw [← hp, hm, ho1]
end Go.Proofs.Ytaclpbkbjmbceaa

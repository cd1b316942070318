/-
  RAFT: equal states.
-/
import Derived.Test.YtaclpbkbjmbceaaRx
set_option linter.unusedVariables false
set_option linter.unusedSimpArgs false
set_option maxRecDepth 100000
set_option maxHeartbeats 4000000
namespace Go.Proofs.Ytaclpbkbjmbceaa
open Go.Eng
theorem eqRaft_m (X Y : RaftQ) (h : X.p = Y.p) (w : World) [hX : RaftAt w (fpAll []) X] [hY : RaftAt w (fpAll []) Y] : Meets Try.prog 7 [.agg X.enc.toArray, .agg Y.enc.toArray] w (fpAll []) (fun v _ => v = .bool true) := by
  obtain ⟨i, n, r, t, v, ld, ⟨lb, lt, ⟨le, la, lc⟩⟩, sn, cm, el, to, sd, ⟨vl, va, vc⟩, ⟨nl, na, nc⟩, ⟨ml, ma, mc⟩, ⟨sl, sa, sc⟩, rd, ⟨rl, ra, rc⟩, pt, po⟩ := X
  obtain ⟨i', n', r', t', v', ld', ⟨lb', lt', ⟨le', la', lc'⟩⟩, sn', cm', el', to', sd', ⟨vl', va', vc'⟩, ⟨nl', na', nc'⟩, ⟨ml', ma', mc'⟩, ⟨sl', sa', sc'⟩, rd', ⟨rl', ra', rc'⟩, pt', po'⟩ := Y
  simp only [RaftQ.p, LogQ.p, Raft.mk.injEq, Log.mk.injEq] at h
  obtain ⟨rfl, rfl, rfl, rfl, rfl, rfl, ⟨rfl, rfl, rfl⟩, rfl, rfl, rfl, rfl, rfl, rfl, rfl, rfl, rfl, rfl, hr, rfl, rfl⟩ := h
  haveI x1 := hX.log.sl; haveI y1 := hY.log.sl; haveI x2 := hX.votes; haveI y2 := hY.votes; haveI x3 := hX.next; haveI y3 := hY.next; haveI x4 := hX.mtch; haveI y4 := hY.mtch; haveI x5 := hX.sent; haveI y5 := hY.sent; haveI x6 := hX.reads.sl; haveI y6 := hY.reads.sl
  have x7 := hX.reads.acks
  have y7 := hY.reads.acks
  simp only at x1 y1 x2 y2 x3 y3 x4 y4 x5 y5 x6 y6 x7 y7
  have hrl : rl'.length = rl.length := by have e := congrArg List.length hr; simpa using e.symm
  simp only [RaftQ.enc, At.v, hrl]
  clear hX hY
  refine enter tysOK Try.func7 rfl Try.ntmps7 rfl (HeapOK.start w) ?_
  repeat (first | refine St.imp ?_ | (refine st_seq ?_; intro K hK) | refine st_t ?_ | refine st_f ?_ | refine st_miss ?_)
  (refine a_eff ?_ (e_box); rintro _ _ ⟨b1, rfl, rfl⟩)
  (refine a_eff ?_ (e_box); rintro _ _ ⟨b2, rfl, rfl⟩)
  refine a_val ?_ v_assign
  repeat (first | refine St.imp ?_ | (refine st_seq ?_; intro K hK) | refine st_t ?_ | refine st_f ?_ | refine st_miss ?_)
  (first | refine a_val ?_ v_field | refine a_val ?_ v_fieldE | refine a_val ?_ v_field0)
  (first | refine a_val ?_ v_load | refine a_val ?_ v_loadA)
  (first | refine a_val ?_ v_field | refine a_val ?_ v_fieldE | refine a_val ?_ v_field0)
  (first | refine a_val ?_ v_load | refine a_val ?_ v_loadA)
  (first | refine a_val ?_ v_eqlS | refine a_val ?_ v_seqlS | refine a_val ?_ v_beqlS)
  refine a_val ?_ v_move
  (first | refine a_val ?_ v_field | refine a_val ?_ v_fieldE | refine a_val ?_ v_field0 | refine a_skip ?_)
  (first | refine a_val ?_ v_load | refine a_val ?_ v_loadA | refine a_skip ?_)
  (first | refine a_val ?_ v_field | refine a_val ?_ v_fieldE | refine a_val ?_ v_field0 | refine a_skip ?_)
  (first | refine a_val ?_ v_load | refine a_val ?_ v_loadA | refine a_skip ?_)
  (first | refine a_val ?_ v_eqlS | refine a_val ?_ v_seqlS | refine a_val ?_ v_beqlS | refine a_skip ?_)
  (first | refine a_val ?_ v_pickt | refine a_val ?_ v_pickf)
  refine a_val ?_ v_move
  (first | refine a_val ?_ v_field | refine a_val ?_ v_fieldE | refine a_val ?_ v_field0 | refine a_skip ?_)
  (first | refine a_val ?_ v_load | refine a_val ?_ v_loadA | refine a_skip ?_)
  (first | refine a_val ?_ v_field | refine a_val ?_ v_fieldE | refine a_val ?_ v_field0 | refine a_skip ?_)
  (first | refine a_val ?_ v_load | refine a_val ?_ v_loadA | refine a_skip ?_)
  (first | refine a_val ?_ v_eqlS | refine a_val ?_ v_seqlS | refine a_val ?_ v_beqlS | refine a_skip ?_)
  (first | refine a_val ?_ v_pickt | refine a_val ?_ v_pickf)
  refine a_val ?_ v_move
  (first | refine a_val ?_ v_field | refine a_val ?_ v_fieldE | refine a_val ?_ v_field0 | refine a_skip ?_)
  (first | refine a_val ?_ v_load | refine a_val ?_ v_loadA | refine a_skip ?_)
  (first | refine a_val ?_ v_field | refine a_val ?_ v_fieldE | refine a_val ?_ v_field0 | refine a_skip ?_)
  (first | refine a_val ?_ v_load | refine a_val ?_ v_loadA | refine a_skip ?_)
  (first | refine a_val ?_ v_eqlS | refine a_val ?_ v_seqlS | refine a_val ?_ v_beqlS | refine a_skip ?_)
  (first | refine a_val ?_ v_pickt | refine a_val ?_ v_pickf)
  refine a_val ?_ v_move
  (first | refine a_val ?_ v_field | refine a_val ?_ v_fieldE | refine a_val ?_ v_field0 | refine a_skip ?_)
  (first | refine a_val ?_ v_load | refine a_val ?_ v_loadA | refine a_skip ?_)
  (first | refine a_val ?_ v_field | refine a_val ?_ v_fieldE | refine a_val ?_ v_field0 | refine a_skip ?_)
  (first | refine a_val ?_ v_load | refine a_val ?_ v_loadA | refine a_skip ?_)
  (first | refine a_val ?_ v_eqlS | refine a_val ?_ v_seqlS | refine a_val ?_ v_beqlS | refine a_skip ?_)
  (first | refine a_val ?_ v_pickt | refine a_val ?_ v_pickf)
  refine a_val ?_ v_move
  (first | refine a_val ?_ v_field | refine a_val ?_ v_fieldE | refine a_val ?_ v_field0 | refine a_skip ?_)
  (first | refine a_val ?_ v_load | refine a_val ?_ v_loadA | refine a_skip ?_)
  (first | refine a_val ?_ v_field | refine a_val ?_ v_fieldE | refine a_val ?_ v_field0 | refine a_skip ?_)
  (first | refine a_val ?_ v_load | refine a_val ?_ v_loadA | refine a_skip ?_)
  (first | refine a_val ?_ v_eqlS | refine a_val ?_ v_seqlS | refine a_val ?_ v_beqlS | refine a_skip ?_)
  (first | refine a_val ?_ v_pickt | refine a_val ?_ v_pickf)
  refine a_val ?_ v_move
  (first | refine a_val ?_ v_field | refine a_val ?_ v_fieldE | refine a_val ?_ v_field0 | refine a_skip ?_)
  (first | refine a_val ?_ (v_loadA (vs := LogQ.enc ⟨lb, lt, ⟨le, la, lc⟩⟩)) | refine a_skip ?_)
  (first | refine a_val ?_ v_field | refine a_val ?_ v_fieldE | refine a_val ?_ v_field0 | refine a_skip ?_)
  (first | refine a_val ?_ (v_loadA (vs := LogQ.enc ⟨lb, lt, ⟨le, la', lc'⟩⟩)) | refine a_skip ?_)
  (first | (refine a_eff ?_ (e_callP rfl rfl fun w hw => eqLog_m lb lt le la la' lc lc' w); rintro _ _ ⟨rfl, rfl⟩) | refine a_skip ?_)
  (first | refine a_val ?_ v_pickt | refine a_val ?_ v_pickf)
  refine a_val ?_ v_move
  (first | refine a_val ?_ v_field | refine a_val ?_ v_fieldE | refine a_val ?_ v_field0 | refine a_skip ?_)
  (first | refine a_val ?_ v_load | refine a_val ?_ v_loadA | refine a_skip ?_)
  (first | refine a_val ?_ v_field | refine a_val ?_ v_fieldE | refine a_val ?_ v_field0 | refine a_skip ?_)
  (first | refine a_val ?_ v_load | refine a_val ?_ v_loadA | refine a_skip ?_)
  (first | refine a_val ?_ v_eqlS | refine a_val ?_ v_seqlS | refine a_val ?_ v_beqlS | refine a_skip ?_)
  (first | refine a_val ?_ v_pickt | refine a_val ?_ v_pickf)
  refine a_val ?_ v_move
  (first | refine a_val ?_ v_field | refine a_val ?_ v_fieldE | refine a_val ?_ v_field0 | refine a_skip ?_)
  (first | refine a_val ?_ v_load | refine a_val ?_ v_loadA | refine a_skip ?_)
  (first | refine a_val ?_ v_field | refine a_val ?_ v_fieldE | refine a_val ?_ v_field0 | refine a_skip ?_)
  (first | refine a_val ?_ v_load | refine a_val ?_ v_loadA | refine a_skip ?_)
  (first | refine a_val ?_ v_eqlS | refine a_val ?_ v_seqlS | refine a_val ?_ v_beqlS | refine a_skip ?_)
  (first | refine a_val ?_ v_pickt | refine a_val ?_ v_pickf)
  refine a_val ?_ v_move
  (first | refine a_val ?_ v_field | refine a_val ?_ v_fieldE | refine a_val ?_ v_field0 | refine a_skip ?_)
  (first | refine a_val ?_ v_load | refine a_val ?_ v_loadA | refine a_skip ?_)
  (first | refine a_val ?_ v_field | refine a_val ?_ v_fieldE | refine a_val ?_ v_field0 | refine a_skip ?_)
  (first | refine a_val ?_ v_load | refine a_val ?_ v_loadA | refine a_skip ?_)
  (first | refine a_val ?_ v_eqlS | refine a_val ?_ v_seqlS | refine a_val ?_ v_beqlS | refine a_skip ?_)
  (first | refine a_val ?_ v_pickt | refine a_val ?_ v_pickf)
  refine a_val ?_ v_move
  (first | refine a_val ?_ v_field | refine a_val ?_ v_fieldE | refine a_val ?_ v_field0 | refine a_skip ?_)
  (first | refine a_val ?_ v_load | refine a_val ?_ v_loadA | refine a_skip ?_)
  (first | refine a_val ?_ v_field | refine a_val ?_ v_fieldE | refine a_val ?_ v_field0 | refine a_skip ?_)
  (first | refine a_val ?_ v_load | refine a_val ?_ v_loadA | refine a_skip ?_)
  (first | refine a_val ?_ v_eqlS | refine a_val ?_ v_seqlS | refine a_val ?_ v_beqlS | refine a_skip ?_)
  (first | refine a_val ?_ v_pickt | refine a_val ?_ v_pickf)
  refine a_val ?_ v_move
  (first | refine a_val ?_ v_field | refine a_val ?_ v_fieldE | refine a_val ?_ v_field0 | refine a_skip ?_)
  (first | refine a_val ?_ v_load | refine a_val ?_ v_loadA | refine a_skip ?_)
  (first | refine a_val ?_ v_field | refine a_val ?_ v_fieldE | refine a_val ?_ v_field0 | refine a_skip ?_)
  (first | refine a_val ?_ v_load | refine a_val ?_ v_loadA | refine a_skip ?_)
  (first | refine a_val ?_ v_eqlS | refine a_val ?_ v_seqlS | refine a_val ?_ v_beqlS | refine a_skip ?_)
  (first | refine a_val ?_ v_pickt | refine a_val ?_ v_pickf)
  refine a_val ?_ v_move
  (first | refine a_val ?_ v_field | refine a_val ?_ v_fieldE | refine a_val ?_ v_field0 | refine a_skip ?_)
  (first | refine a_val ?_ v_load | refine a_val ?_ v_loadA | refine a_skip ?_)
  (first | refine a_val ?_ v_field | refine a_val ?_ v_fieldE | refine a_val ?_ v_field0 | refine a_skip ?_)
  (first | refine a_val ?_ v_load | refine a_val ?_ v_loadA | refine a_skip ?_)
  (first | (refine a_eff ?_ (e_callP rfl rfl fun w hw => eqI_m vl va va' vc vc' w); rintro _ _ ⟨rfl, rfl⟩) | refine a_skip ?_)
  (first | refine a_val ?_ v_pickt | refine a_val ?_ v_pickf)
  refine a_val ?_ v_move
  (first | refine a_val ?_ v_field | refine a_val ?_ v_fieldE | refine a_val ?_ v_field0 | refine a_skip ?_)
  (first | refine a_val ?_ v_load | refine a_val ?_ v_loadA | refine a_skip ?_)
  (first | refine a_val ?_ v_field | refine a_val ?_ v_fieldE | refine a_val ?_ v_field0 | refine a_skip ?_)
  (first | refine a_val ?_ v_load | refine a_val ?_ v_loadA | refine a_skip ?_)
  (first | (refine a_eff ?_ (e_callP rfl rfl fun w hw => eqI_m nl na na' nc nc' w); rintro _ _ ⟨rfl, rfl⟩) | refine a_skip ?_)
  (first | refine a_val ?_ v_pickt | refine a_val ?_ v_pickf)
  refine a_val ?_ v_move
  (first | refine a_val ?_ v_field | refine a_val ?_ v_fieldE | refine a_val ?_ v_field0 | refine a_skip ?_)
  (first | refine a_val ?_ v_load | refine a_val ?_ v_loadA | refine a_skip ?_)
  (first | refine a_val ?_ v_field | refine a_val ?_ v_fieldE | refine a_val ?_ v_field0 | refine a_skip ?_)
  (first | refine a_val ?_ v_load | refine a_val ?_ v_loadA | refine a_skip ?_)
  (first | (refine a_eff ?_ (e_callP rfl rfl fun w hw => eqI_m ml ma ma' mc mc' w); rintro _ _ ⟨rfl, rfl⟩) | refine a_skip ?_)
  (first | refine a_val ?_ v_pickt | refine a_val ?_ v_pickf)
  refine a_val ?_ v_move
  (first | refine a_val ?_ v_field | refine a_val ?_ v_fieldE | refine a_val ?_ v_field0 | refine a_skip ?_)
  (first | refine a_val ?_ v_load | refine a_val ?_ v_loadA | refine a_skip ?_)
  (first | refine a_val ?_ v_field | refine a_val ?_ v_fieldE | refine a_val ?_ v_field0 | refine a_skip ?_)
  (first | refine a_val ?_ v_load | refine a_val ?_ v_loadA | refine a_skip ?_)
  (first | (refine a_eff ?_ (e_callP rfl rfl fun w hw => eqI_m sl sa sa' sc sc' w); rintro _ _ ⟨rfl, rfl⟩) | refine a_skip ?_)
  (first | refine a_val ?_ v_pickt | refine a_val ?_ v_pickf)
  refine a_val ?_ v_move
  (first | refine a_val ?_ v_field | refine a_val ?_ v_fieldE | refine a_val ?_ v_field0 | refine a_skip ?_)
  (first | refine a_val ?_ v_load | refine a_val ?_ v_loadA | refine a_skip ?_)
  (first | refine a_val ?_ v_field | refine a_val ?_ v_fieldE | refine a_val ?_ v_field0 | refine a_skip ?_)
  (first | refine a_val ?_ v_load | refine a_val ?_ v_loadA | refine a_skip ?_)
  (first | refine a_val ?_ v_eqlS | refine a_val ?_ v_seqlS | refine a_val ?_ v_beqlS | refine a_skip ?_)
  (first | refine a_val ?_ v_pickt | refine a_val ?_ v_pickf)
  refine a_val ?_ v_move
  (first | refine a_val ?_ v_field | refine a_val ?_ v_fieldE | refine a_val ?_ v_field0 | refine a_skip ?_)
  (first | refine a_val ?_ v_load | refine a_val ?_ v_loadA | refine a_skip ?_)
  (first | refine a_val ?_ v_field | refine a_val ?_ v_fieldE | refine a_val ?_ v_field0 | refine a_skip ?_)
  (first | refine a_val ?_ v_load | refine a_val ?_ v_loadA | refine a_skip ?_)
  (first | (refine a_eff ?_ (e_callP rfl rfl fun w hw => eqReads_m rl rl' rl.length rfl hrl hr ra ra' rc rc' w (fun x hx => (x7 x hx).keep hw) (fun x hx => (y7 x hx).keep hw)); rintro _ _ ⟨rfl, rfl⟩) | refine a_skip ?_)
  (first | refine a_val ?_ v_pickt | refine a_val ?_ v_pickf)
  refine a_val ?_ v_move
  (first | refine a_val ?_ v_field | refine a_val ?_ v_fieldE | refine a_val ?_ v_field0 | refine a_skip ?_)
  (first | refine a_val ?_ v_load | refine a_val ?_ v_loadA | refine a_skip ?_)
  (first | refine a_val ?_ v_field | refine a_val ?_ v_fieldE | refine a_val ?_ v_field0 | refine a_skip ?_)
  (first | refine a_val ?_ v_load | refine a_val ?_ v_loadA | refine a_skip ?_)
  (first | refine a_val ?_ v_eqlS | refine a_val ?_ v_seqlS | refine a_val ?_ v_beqlS | refine a_skip ?_)
  (first | refine a_val ?_ v_pickt | refine a_val ?_ v_pickf)
  refine a_val ?_ v_move
  (first | refine a_val ?_ v_field | refine a_val ?_ v_fieldE | refine a_val ?_ v_field0 | refine a_skip ?_)
  (first | refine a_val ?_ v_load | refine a_val ?_ v_loadA | refine a_skip ?_)
  (first | refine a_val ?_ v_field | refine a_val ?_ v_fieldE | refine a_val ?_ v_field0 | refine a_skip ?_)
  (first | refine a_val ?_ v_load | refine a_val ?_ v_loadA | refine a_skip ?_)
  (first | refine a_val ?_ v_eqlS | refine a_val ?_ v_seqlS | refine a_val ?_ v_beqlS | refine a_skip ?_)
  (first | refine a_val ?_ v_pickt | refine a_val ?_ v_pickf)
  refine a_val ?_ v_assign
  repeat (first | refine St.imp ?_ | (refine st_seq ?_; intro K hK) | refine st_t ?_ | refine st_f ?_ | refine st_miss ?_)
  first | refine a_ret Try.results7 ?_ | refine a_end Try.results7 ?_
  rfl
end Go.Proofs.Ytaclpbkbjmbceaa

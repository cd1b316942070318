/-
  Copies of sessions.
-/
import Derived.Test.YtefljdelmeifhaaSf
set_option linter.unusedVariables false
set_option linter.unusedSimpArgs false
set_option maxRecDepth 100000
namespace Go.Proofs.Ytefljdelmeifhaa
open Go.Eng
theorem HitsAt.mono {w : World} {F F' : Nat → Prop} {x : SQ} (h : HitsAt w F x) (hF : ∀ k, F' k → F k) : HitsAt w F' x := ⟨h.rd.mono hF⟩
/-- The hits of some sessions, in blocks of their own. -/
def hitsB (G : Nat → Prop) (q : List SQ) : Atom := .gen G (fun w => ∀ x ∈ q, HitsAt w (fun k => ¬ G k) x)
theorem hitsB_nil {w0 w : World} {F0 : Nat → Prop} {As : List Atom} (h : HeapOK w0 F0 As w) : HeapOK w0 F0 (hitsB (fun _ => False) [] :: As) w := h.gen0 fun _ x hx => by cases hx
theorem hitsB_snoc {w0 w : World} {F0 G : Nat → Prop} {Rs : List Atom} {q : List SQ} {s : Sess} {A : Option Addr} {c : Nat} (h : HeapOK w0 F0 (.row (.slice A s.hits.length c) 74 2 (s.hits.map Hit.enc) :: hitsB G q :: Rs) w) (hb : s.hits.length ≤ 100000) :
    ∃ G', HeapOK w0 F0 (hitsB G' (q ++ [(s, A, c)]) :: Rs) w := by
  refine ⟨fun k => (Value.slice A s.hits.length c).ownBlock = some k ∨ G k, h.merge (fun k => Iff.rfl) fun w' hw' h1 h2 y hy => ?_⟩
  rcases List.mem_append.1 hy with hy | hy
  · exact (h2 w' (fun _ _ => rfl) y hy).mono fun k hk hG => hk (.inr hG)
  · rw [List.mem_singleton.1 hy]
    exact ⟨(Sl.ofRow (by omega) h1 (by omega)).mono fun k hk hG => hk (.inl hG)⟩
theorem hitsB_at {w0 w : World} {F0 G : Nat → Prop} {As Bs Rs : List Atom} {q : List SQ} (h : HeapOK w0 F0 As w) (hp : Pick As Bs Rs) (hA : Has Rs (hitsB G q)) : ∀ x ∈ q, HitsAt w (fpAll Bs) x := fun x hx => by
  have hm : Has Rs (.gen G (fun w => ∀ x ∈ q, HitsAt w (fun k => ¬ G k) x)) := hA
  have hok : ∀ x ∈ q, HitsAt w (fun k => ¬ G k) x := by
    have h1 : hitsB G q ∈ As := (hp.perm.mem_iff).2 (List.mem_append_right _ hA.mem)
    exact (h.ok _ h1) w fun _ _ => rfl
  exact ⟨(hok x hx).rd.gen h hp hm⟩
theorem copySessions_m (q : List SQ) (A : Option Addr) (c : Nat) (w : World) (hl : Sl w (fpAll []) enc 6 q A c) (hh : ∀ x ∈ q, HitsAt w (fpAll []) x) (hb : q.length ≤ 100000 ∧ ∀ x ∈ q, x.1.hits.length ≤ 100000) :
    Meets Try.prog 5 [.slice A q.length c] w (fpAll []) (fun v As => ∃ (q' : List SQ) (A' : Option Addr) (c' : Nat) (G : Nat → Prop), ss q' = ss q ∧ v = .slice A' q'.length c' ∧ As = [.row (.slice A' q'.length c') 56 6 (q'.map enc), hitsB G q']) := by
  refine enter tysOK Try.func5 rfl Try.ntmps5 rfl (HeapOK.start w) ?_
  have hlen := hl.len
  repeat (first | refine tc_region ?_ | (refine tc_seq ?_; intro K hK) | refine tc_block ?_ | refine tc_exit ?_ | refine tc_ret ?_ | refine tc_skip ?_ | refine tc_cond_t rfl ?_ | refine tc_cond_f rfl ?_ | refine tk_then_n ?_ | refine tk_then_r ?_ | refine tk_then_e ?_ | refine tk_block_n ?_ | refine tk_block_r ?_ | refine tk_block_hit ?_ | refine tk_block_miss rfl ?_ | refine ‹∀ (e : Env) (As : List Atom), TC _ _ _ e As → TK _ _ e As› _ _ ?_)
  refine tl_val (wanted_none rfl) (val_assign rfl) rfl rfl ?_
  refine tl_nil ?_
  repeat (first | refine tc_region ?_ | (refine tc_seq ?_; intro K hK) | refine tc_block ?_ | refine tc_exit ?_ | refine tc_ret ?_ | refine tc_skip ?_ | refine tc_cond_t rfl ?_ | refine tc_cond_f rfl ?_ | refine tk_then_n ?_ | refine tk_then_r ?_ | refine tk_then_e ?_ | refine tk_block_n ?_ | refine tk_block_r ?_ | refine tk_block_hit ?_ | refine tk_block_miss rfl ?_ | refine ‹∀ (e : Env) (As : List Atom), TC _ _ _ e As → TK _ _ e As› _ _ ?_)
  repeat (first | refine tc_region ?_ | (refine tc_seq ?_; intro K hK) | refine tc_block ?_ | refine tc_exit ?_ | refine tc_ret ?_ | refine tc_skip ?_ | refine tc_cond_t rfl ?_ | refine tc_cond_f rfl ?_ | refine tk_then_n ?_ | refine tk_then_r ?_ | refine tk_then_e ?_ | refine tk_block_n ?_ | refine tk_block_r ?_ | refine tk_block_hit ?_ | refine tk_block_miss rfl ?_ | refine ‹∀ (e : Env) (As : List Atom), TC _ _ _ e As → TK _ _ e As› _ _ ?_)
  refine tl_val (wanted_none rfl) (val_assign rfl) rfl rfl ?_
  refine tl_nil ?_
  repeat (first | refine tc_region ?_ | (refine tc_seq ?_; intro K hK) | refine tc_block ?_ | refine tc_exit ?_ | refine tc_ret ?_ | refine tc_skip ?_ | refine tc_cond_t rfl ?_ | refine tc_cond_f rfl ?_ | refine tk_then_n ?_ | refine tk_then_r ?_ | refine tk_then_e ?_ | refine tk_block_n ?_ | refine tk_block_r ?_ | refine tk_block_hit ?_ | refine tk_block_miss rfl ?_ | refine ‹∀ (e : Env) (As : List Atom), TC _ _ _ e As → TK _ _ e As› _ _ ?_)
  repeat (first | refine tc_region ?_ | (refine tc_seq ?_; intro K hK) | refine tc_block ?_ | refine tc_exit ?_ | refine tc_ret ?_ | refine tc_skip ?_ | refine tc_cond_t rfl ?_ | refine tc_cond_f rfl ?_ | refine tk_then_n ?_ | refine tk_then_r ?_ | refine tk_then_e ?_ | refine tk_block_n ?_ | refine tk_block_r ?_ | refine tk_block_hit ?_ | refine tk_block_miss rfl ?_ | refine ‹∀ (e : Env) (As : List Atom), TC _ _ _ e As → TK _ _ e As› _ _ ?_)
  refine tl_val (wanted_none rfl) (val_assign rfl) rfl rfl ?_
  refine tl_nil ?_
  repeat (first | refine tc_region ?_ | (refine tc_seq ?_; intro K hK) | refine tc_block ?_ | refine tc_exit ?_ | refine tc_ret ?_ | refine tc_skip ?_ | refine tc_cond_t rfl ?_ | refine tc_cond_f rfl ?_ | refine tk_then_n ?_ | refine tk_then_r ?_ | refine tk_then_e ?_ | refine tk_block_n ?_ | refine tk_block_r ?_ | refine tk_block_hit ?_ | refine tk_block_miss rfl ?_ | refine ‹∀ (e : Env) (As : List Atom), TC _ _ _ e As → TK _ _ e As› _ _ ?_)
  refine tc_ent (Ent.nilrow 56 6) ?_
  refine tc_loop (σ := Int × Option Addr × Nat × List SQ × (Nat → Prop)) (fun s => [(4, .int .i64 s.1), (0, .slice A q.length c), (3, .slice s.2.1 s.2.2.2.1.length s.2.2.1)]) (fun s => [.row (.slice s.2.1 s.2.2.2.1.length s.2.2.1) 56 6 (s.2.2.2.1.map enc), hitsB s.2.2.2.2 s.2.2.2.1]) (fun s => 0 ≤ s.1 ∧ s.1 ≤ q.length ∧ ss s.2.2.2.1 = (ss q).take s.1.toNat) (fun s => (q.length - s.1).toNat) (0, none, 0, [], fun _ => False) ⟨by simp, by simp, by simp⟩ (by repeat (first | exact Sub.nil | apply Sub.cons rfl)) (.mk fun w hw => (hitsB_nil hw).pick (by repeat (first | exact Pick.nil | exact Rem.here | apply Rem.there | apply Pick.take))) ?_
  rintro ⟨i, Am, cm, qm, G⟩ hi KL hKL
  obtain ⟨h0, h1, hq⟩ := hi
  simp only at h0 h1 hq
  have hml : qm.length = i.toNat := by have := congrArg List.length hq; simp at this; omega
  repeat (first | refine tc_region ?_ | (refine tc_seq ?_; intro K hK) | refine tc_block ?_ | refine tc_exit ?_ | refine tc_ret ?_ | refine tc_skip ?_ | refine tc_cond_t rfl ?_ | refine tc_cond_f rfl ?_ | refine tk_then_n ?_ | refine tk_then_r ?_ | refine tk_then_e ?_ | refine tk_block_n ?_ | refine tk_block_r ?_ | refine tk_block_hit ?_ | refine tk_block_miss rfl ?_ | refine ‹∀ (e : Env) (As : List Atom), TC _ _ _ e As → TK _ _ e As› _ _ ?_)
  refine tl_val (wanted_none rfl) (val_move rfl) rfl rfl ?_
  refine tl_val (wanted_none rfl) (val_move rfl) rfl rfl ?_
  (first | refine tl_val (wanted_none rfl) (val_len_slice rfl rfl rfl rfl) rfl rfl ?_ | refine tl_val (wanted_none rfl) (val_len_string rfl rfl rfl rfl) rfl rfl ?_)
  refine tl_val (wanted_none rfl) (val_lss rfl rfl) rfl rfl ?_
  refine tl_nil ?_
  repeat (first | refine tc_region ?_ | (refine tc_seq ?_; intro K hK) | refine tc_block ?_ | refine tc_exit ?_ | refine tc_ret ?_ | refine tc_skip ?_ | refine tc_cond_t rfl ?_ | refine tc_cond_f rfl ?_ | refine tk_then_n ?_ | refine tk_then_r ?_ | refine tk_then_e ?_ | refine tk_block_n ?_ | refine tk_block_r ?_ | refine tk_block_hit ?_ | refine tk_block_miss rfl ?_ | refine ‹∀ (e : Env) (As : List Atom), TC _ _ _ e As → TK _ _ e As› _ _ ?_)
  refine tc_cond rfl (fun hc => ?_) (fun hc => ?_)
  · have hlt : i < q.length := by simpa using hc
    obtain ⟨x, hx⟩ := get_some (l := q) h0 hlt
    have hxm := List.mem_of_getElem? hx
    repeat (first | refine tc_region ?_ | (refine tc_seq ?_; intro K hK) | refine tc_block ?_ | refine tc_exit ?_ | refine tc_ret ?_ | refine tc_skip ?_ | refine tc_cond_t rfl ?_ | refine tc_cond_f rfl ?_ | refine tk_then_n ?_ | refine tk_then_r ?_ | refine tk_then_e ?_ | refine tk_block_n ?_ | refine tk_block_r ?_ | refine tk_block_hit ?_ | refine tk_block_miss rfl ?_ | refine ‹∀ (e : Env) (As : List Atom), TC _ _ _ e As → TK _ _ e As› _ _ ?_)
    refine tl_val (wanted_none rfl) (val_move rfl) rfl rfl ?_
    refine tl_val (wanted_none rfl) (val_move rfl) rfl rfl ?_
    refine tl_val (wanted_none rfl) (val_move rfl) rfl rfl ?_
    refine tl_val (wanted_none rfl) (val_indexAddr rfl rfl rfl rfl rfl h0 hlt (fun w' _ => hl.some (by omega))) rfl rfl ?_
    refine tl_val (wanted_none rfl) (val_load_elt_agg0 rfl (fun w' hw => hw.rd hl.rd) (getmap hx) rfl rfl rfl) rfl rfl ?_
    (refine tl_eff (wanted_none rfl) (eff_call_at rfl rfl ok24 Pick.nil (fun w hw => copySession_m x w ((hh x hxm).keep hw) (hb.2 x hxm))) rfl rfl ?_; rintro _ _ ⟨_, ⟨A', c', rfl, rfl⟩, rfl⟩; simp only [List.cons_append, List.nil_append])
    simp only [enc]
    (refine tl_eff (wanted_none rfl) (eff_buildSlice1 rfl (by simp only [Value.cells, List.toList_toArray]; exact rfl) rfl rfl rfl rfl rfl rfl) rfl rfl ?_; rintro _ _ ⟨b, rfl, rfl⟩)
    (refine tl_eff (wanted_none rfl) (eff_append1 rfl rfl rfl rfl rfl rfl rfl rfl (by repeat (first | exact Rem.here | apply Rem.there)) (by repeat (first | exact Has.here | refine Has.there ?_)) rfl rfl (by simp [ty56]; omega)) rfl rfl ?_; rintro _ _ ⟨Ax, cx, rfl, rfl⟩)
    refine tl_val (wanted_none rfl) (val_assign rfl) rfl rfl ?_
    refine tl_nil ?_
    repeat (first | refine tc_region ?_ | (refine tc_seq ?_; intro K hK) | refine tc_block ?_ | refine tc_exit ?_ | refine tc_ret ?_ | refine tc_skip ?_ | refine tc_cond_t rfl ?_ | refine tc_cond_f rfl ?_ | refine tk_then_n ?_ | refine tk_then_r ?_ | refine tk_then_e ?_ | refine tk_block_n ?_ | refine tk_block_r ?_ | refine tk_block_hit ?_ | refine tk_block_miss rfl ?_ | refine ‹∀ (e : Env) (As : List Atom), TC _ _ _ e As → TK _ _ e As› _ _ ?_)
    repeat (first | refine tc_region ?_ | (refine tc_seq ?_; intro K hK) | refine tc_block ?_ | refine tc_exit ?_ | refine tc_ret ?_ | refine tc_skip ?_ | refine tc_cond_t rfl ?_ | refine tc_cond_f rfl ?_ | refine tk_then_n ?_ | refine tk_then_r ?_ | refine tk_then_e ?_ | refine tk_block_n ?_ | refine tk_block_r ?_ | refine tk_block_hit ?_ | refine tk_block_miss rfl ?_ | refine ‹∀ (e : Env) (As : List Atom), TC _ _ _ e As → TK _ _ e As› _ _ ?_)
    refine tl_val (wanted_none rfl) (val_move rfl) rfl rfl ?_
    refine tl_val (wanted_none rfl) (val_add rfl rfl (by omega)) rfl rfl ?_
    refine tl_val (wanted_none rfl) (val_assign rfl) rfl rfl ?_
    refine tl_nil ?_
    repeat (first | refine tc_region ?_ | (refine tc_seq ?_; intro K hK) | refine tc_block ?_ | refine tc_exit ?_ | refine tc_ret ?_ | refine tc_skip ?_ | refine tc_cond_t rfl ?_ | refine tc_cond_f rfl ?_ | refine tk_then_n ?_ | refine tk_then_r ?_ | refine tk_then_e ?_ | refine tk_block_n ?_ | refine tk_block_r ?_ | refine tk_block_hit ?_ | refine tk_block_miss rfl ?_ | refine ‹∀ (e : Env) (As : List Atom), TC _ _ _ e As → TK _ _ e As› _ _ ?_)
    have e2 : (qm.map enc ++ [enc (x.1, A', c')]).length = (qm ++ [(x.1, A', c')]).length := by simp
    have e3 : qm.map enc ++ [enc (x.1, A', c')] = (qm ++ [(x.1, A', c')]).map enc := by simp
    rw [show [Value.int .i64 x.1.client, .int .i64 x.1.seq, .int .i64 x.1.err, .int .i64 x.1.n, .slice A' x.1.hits.length c', .int .i64 x.1.used] = enc (x.1, A', c') from rfl, e2, e3]
    refine tk_know (α := Nat → Prop) (Bs := fun G' => [.row (.slice Ax (qm ++ [(x.1, A', c')]).length cx) 56 6 ((qm ++ [(x.1, A', c')]).map enc), hitsB G' (qm ++ [(x.1, A', c')])]) (fun w hw => ?_) (fun G' => TK.weaken (hKL (i + 1, Ax, cx, qm ++ [(x.1, A', c')], G') ⟨by simp only; omega, by simp only; omega, ?_⟩ (by simp only; omega)) (by repeat (first | exact Sub.nil | apply Sub.cons rfl)) Ent.refl)
    · obtain ⟨G', hG⟩ := hitsB_snoc (Rs := [.row (.slice Ax (qm ++ [(x.1, A', c')]).length cx) 56 6 ((qm ++ [(x.1, A', c')]).map enc)]) (hw.pick (by repeat (first | exact Pick.nil | exact Rem.here | apply Rem.there | apply Pick.take))) (hb.2 x hxm)
      exact ⟨G', hG.pick (by repeat (first | exact Pick.nil | exact Rem.here | apply Rem.there | apply Pick.take))⟩
    · simp only
      have hxs : (ss q)[i.toNat]? = some x.1 := by simp [hx]
      rw [show (i + 1).toNat = i.toNat + 1 by omega, List.take_add_one, hxs, ← hq]
      simp
  · have : i.toNat = q.length := by have : ¬ i < q.length := by simpa using hc
                                    omega
    repeat (first | refine tc_region ?_ | (refine tc_seq ?_; intro K hK) | refine tc_block ?_ | refine tc_exit ?_ | refine tc_ret ?_ | refine tc_skip ?_ | refine tc_cond_t rfl ?_ | refine tc_cond_f rfl ?_ | refine tk_then_n ?_ | refine tk_then_r ?_ | refine tk_then_e ?_ | refine tk_block_n ?_ | refine tk_block_r ?_ | refine tk_block_hit ?_ | refine tk_block_miss rfl ?_ | refine ‹∀ (e : Env) (As : List Atom), TC _ _ _ e As → TK _ _ e As› _ _ ?_)
    refine tl_val (wanted_none rfl) (val_move rfl) rfl rfl ?_
    refine tl_val (wanted_none rfl) (val_assign rfl) rfl rfl ?_
    refine tl_nil ?_
    repeat (first | refine tc_region ?_ | (refine tc_seq ?_; intro K hK) | refine tc_block ?_ | refine tc_exit ?_ | refine tc_ret ?_ | refine tc_skip ?_ | refine tc_cond_t rfl ?_ | refine tc_cond_f rfl ?_ | refine tk_then_n ?_ | refine tk_then_r ?_ | refine tk_then_e ?_ | refine tk_block_n ?_ | refine tk_block_r ?_ | refine tk_block_hit ?_ | refine tk_block_miss rfl ?_ | refine ‹∀ (e : Env) (As : List Atom), TC _ _ _ e As → TK _ _ e As› _ _ ?_)
    (first | apply tk_ret Try.results5 | apply tk_end Try.results5); (repeat (first | exact ResOK.nil | apply ResOK.tmp rfl | apply ResOK.agg rfl (by repeat (first | exact Has.here | refine Has.there ?_)) (by exact rfl) (by exact rfl) (by exact rfl) | apply ResOK.scalar rfl (by repeat (first | exact Has.here | refine Has.there ?_)) (by exact rfl) (by exact rfl))); intro w hw; refine ⟨_, _, rfl, ?_, hw⟩; try dsimp only [retV]
    rw [this, List.take_of_length_le (by simp)] at hq
    exact ⟨qm, Am, cm, G, hq, rfl, rfl⟩
end Go.Proofs.Ytefljdelmeifhaa

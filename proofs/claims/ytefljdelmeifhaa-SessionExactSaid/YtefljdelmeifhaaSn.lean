/-
  The program's own: opened, noted.
-/
import Derived.Test.YtefljdelmeifhaaSm
set_option linter.unusedVariables false
set_option linter.unusedSimpArgs false
set_option maxRecDepth 100000
namespace Go.Proofs.Ytefljdelmeifhaa
open Go.Eng
theorem rises_erase {l : List Sess} (h : Rises l) (k : Nat) : Rises (l.eraseIdx k) := by
  intro i j x y hij hx hy
  rw [List.getElem?_eraseIdx] at hx hy
  split at hx <;> split at hy
  · exact h i j x y hij hx hy
  · exact h i (j + 1) x y (by omega) hx hy
  · omega
  · exact h (i + 1) (j + 1) x y (by omega) hx hy
theorem openP_m (q : List SQ) (A : Option Addr) (c : Nat) (k : Int) (w : World) (hl : Sl w (fpAll []) enc 6 q A c) :
    Meets Try.prog 21 [.slice A q.length c, .int .i64 k] w (fpAll []) (ResP (openF (ss q) k)) := by
  refine enter tysOK Try.func21 rfl Try.ntmps21 rfl (HeapOK.start w) ?_
  repeat (first | refine tc_region ?_ | (refine tc_seq ?_; intro K hK) | refine tc_block ?_ | refine tc_exit ?_ | refine tc_ret ?_ | refine tc_skip ?_ | refine tc_cond_t rfl ?_ | refine tc_cond_f rfl ?_ | refine tk_then_n ?_ | refine tk_then_r ?_ | refine tk_then_e ?_ | refine tk_block_n ?_ | refine tk_block_r ?_ | refine tk_block_hit ?_ | refine tk_block_miss rfl ?_ | refine ‹∀ (e : Env) (As : List Atom), TC _ _ _ e As → TK _ _ e As› _ _ ?_)
  refine tl_val (wanted_none rfl) (val_assign rfl) rfl rfl ?_
  refine tl_val (wanted_none rfl) (val_assign rfl) rfl rfl ?_
  refine tl_nil ?_
  repeat (first | refine tc_region ?_ | (refine tc_seq ?_; intro K hK) | refine tc_block ?_ | refine tc_exit ?_ | refine tc_ret ?_ | refine tc_skip ?_ | refine tc_cond_t rfl ?_ | refine tc_cond_f rfl ?_ | refine tk_then_n ?_ | refine tk_then_r ?_ | refine tk_then_e ?_ | refine tk_block_n ?_ | refine tk_block_r ?_ | refine tk_block_hit ?_ | refine tk_block_miss rfl ?_ | refine ‹∀ (e : Env) (As : List Atom), TC _ _ _ e As → TK _ _ e As› _ _ ?_)
  refine tl_val (wanted_none rfl) (val_move rfl) rfl rfl ?_
  (refine tl_eff (wanted_none rfl) (eff_call_pure rfl rfl ok28 (fun w hw => mayP_m q A c w (hl.keep hw))) rfl rfl ?_; rintro _ _ ⟨rfl, rfl⟩)
  refine tl_val (wanted_none rfl) (val_not rfl) rfl rfl ?_
  refine tl_val (wanted_none rfl) (val_move rfl) rfl rfl ?_
  refine tl_case_g rfl rfl rfl (fun hg4 => ?_) (fun hg4 => ?_)
  · (first | refine tl_val (wanted_some rfl rfl rfl) (val_move rfl) rfl rfl ?_ | refine tl_skip (by first | exact unwanted_t rfl rfl rfl | exact unwanted_f rfl rfl rfl | exact unwanted_u rfl rfl rfl) rfl rfl ?_)
    (first | refine tl_skip (by first | exact unwanted_t rfl rfl rfl | exact unwanted_f rfl rfl rfl | exact unwanted_u rfl rfl rfl) rfl rfl ?_ | (refine tl_eff (wanted_some rfl rfl rfl) (eff_call_pure rfl rfl ok30 (fun w hw => number_m _ _ w)) rfl rfl ?_; rintro _ _ ⟨rfl, rfl⟩))
    (first | refine tl_val (wanted_some rfl rfl rfl) (val_not rfl) rfl rfl ?_ | refine tl_skip (by first | exact unwanted_t rfl rfl rfl | exact unwanted_f rfl rfl rfl | exact unwanted_u rfl rfl rfl) rfl rfl ?_)
    (first | refine tl_val (wanted_none rfl) (val_pick_t rfl rfl) rfl rfl ?_ | refine tl_val (wanted_none rfl) (val_pick_f rfl rfl) rfl rfl ?_)
    refine tl_nil ?_
    repeat (first | refine tc_region ?_ | (refine tc_seq ?_; intro K hK) | refine tc_block ?_ | refine tc_exit ?_ | refine tc_ret ?_ | refine tc_skip ?_ | refine tc_cond_t rfl ?_ | refine tc_cond_f rfl ?_ | refine tk_then_n ?_ | refine tk_then_r ?_ | refine tk_then_e ?_ | refine tk_block_n ?_ | refine tk_block_r ?_ | refine tk_block_hit ?_ | refine tk_block_miss rfl ?_ | refine ‹∀ (e : Env) (As : List Atom), TC _ _ _ e As → TK _ _ e As› _ _ ?_)
    repeat (first | refine tc_region ?_ | (refine tc_seq ?_; intro K hK) | refine tc_block ?_ | refine tc_exit ?_ | refine tc_ret ?_ | refine tc_skip ?_ | refine tc_cond_t rfl ?_ | refine tc_cond_f rfl ?_ | refine tk_then_n ?_ | refine tk_then_r ?_ | refine tk_then_e ?_ | refine tk_block_n ?_ | refine tk_block_r ?_ | refine tk_block_hit ?_ | refine tk_block_miss rfl ?_ | refine ‹∀ (e : Env) (As : List Atom), TC _ _ _ e As → TK _ _ e As› _ _ ?_)
    refine tl_val (wanted_none rfl) (val_assign rfl) rfl rfl ?_
    refine tl_val (wanted_none rfl) (val_assign rfl) rfl rfl ?_
    refine tl_nil ?_
    repeat (first | refine tc_region ?_ | (refine tc_seq ?_; intro K hK) | refine tc_block ?_ | refine tc_exit ?_ | refine tc_ret ?_ | refine tc_skip ?_ | refine tc_cond_t rfl ?_ | refine tc_cond_f rfl ?_ | refine tk_then_n ?_ | refine tk_then_r ?_ | refine tk_then_e ?_ | refine tk_block_n ?_ | refine tk_block_r ?_ | refine tk_block_hit ?_ | refine tk_block_miss rfl ?_ | refine ‹∀ (e : Env) (As : List Atom), TC _ _ _ e As → TK _ _ e As› _ _ ?_)
    refine tk_ent (Ent.nilrow 56 6) ?_
    (first | apply tk_ret Try.results21 | apply tk_end Try.results21); (repeat (first | exact ResOK.nil | apply ResOK.tmp rfl | apply ResOK.agg rfl (by repeat (first | exact Has.here | refine Has.there ?_)) (by exact rfl) (by exact rfl) (by exact rfl) | apply ResOK.scalar rfl (by repeat (first | exact Has.here | refine Has.there ?_)) (by exact rfl) (by exact rfl))); intro w hw; refine ⟨_, [.row (.slice none 0 0) 56 6 []], rfl, ?_, hw.pick (by repeat (first | exact Pick.nil | exact Rem.here | apply Rem.there | apply Pick.take))⟩; try dsimp only [retV]
    (try simp only [Bool.not_eq_true', Bool.not_eq_false', decide_eq_true_eq, decide_eq_false_iff_not] at hg4)
    exact ⟨[], none, 0, by simp [openF, *], nilH_nil, by simp [openF, *], rfl⟩
  (first | refine tl_val (wanted_some rfl rfl rfl) (val_move rfl) rfl rfl ?_ | refine tl_skip (by first | exact unwanted_t rfl rfl rfl | exact unwanted_f rfl rfl rfl | exact unwanted_u rfl rfl rfl) rfl rfl ?_)
  (first | refine tl_skip (by first | exact unwanted_t rfl rfl rfl | exact unwanted_f rfl rfl rfl | exact unwanted_u rfl rfl rfl) rfl rfl ?_ | (refine tl_eff (wanted_some rfl rfl rfl) (eff_call_pure rfl rfl ok30 (fun w hw => number_m _ _ w)) rfl rfl ?_; rintro _ _ ⟨rfl, rfl⟩))
  (first | refine tl_val (wanted_some rfl rfl rfl) (val_not rfl) rfl rfl ?_ | refine tl_skip (by first | exact unwanted_t rfl rfl rfl | exact unwanted_f rfl rfl rfl | exact unwanted_u rfl rfl rfl) rfl rfl ?_)
  (first | refine tl_val (wanted_none rfl) (val_pick_t rfl rfl) rfl rfl ?_ | refine tl_val (wanted_none rfl) (val_pick_f rfl rfl) rfl rfl ?_)
  refine tl_nil ?_
  repeat (first | refine tc_region ?_ | (refine tc_seq ?_; intro K hK) | refine tc_block ?_ | refine tc_exit ?_ | refine tc_ret ?_ | refine tc_skip ?_ | refine tc_cond_t rfl ?_ | refine tc_cond_f rfl ?_ | refine tk_then_n ?_ | refine tk_then_r ?_ | refine tk_then_e ?_ | refine tk_block_n ?_ | refine tk_block_r ?_ | refine tk_block_hit ?_ | refine tk_block_miss rfl ?_ | refine ‹∀ (e : Env) (As : List Atom), TC _ _ _ e As → TK _ _ e As› _ _ ?_)
  (try simp only [Bool.not_eq_true', Bool.not_eq_false', decide_eq_true_eq, decide_eq_false_iff_not] at hg4)
  refine tc_cond rfl (fun hc => ?_) (fun hc => ?_)
  · repeat (first | refine tc_region ?_ | (refine tc_seq ?_; intro K hK) | refine tc_block ?_ | refine tc_exit ?_ | refine tc_ret ?_ | refine tc_skip ?_ | refine tc_cond_t rfl ?_ | refine tc_cond_f rfl ?_ | refine tk_then_n ?_ | refine tk_then_r ?_ | refine tk_then_e ?_ | refine tk_block_n ?_ | refine tk_block_r ?_ | refine tk_block_hit ?_ | refine tk_block_miss rfl ?_ | refine ‹∀ (e : Env) (As : List Atom), TC _ _ _ e As → TK _ _ e As› _ _ ?_)
    refine tl_val (wanted_none rfl) (val_assign rfl) rfl rfl ?_
    refine tl_val (wanted_none rfl) (val_assign rfl) rfl rfl ?_
    refine tl_nil ?_
    repeat (first | refine tc_region ?_ | (refine tc_seq ?_; intro K hK) | refine tc_block ?_ | refine tc_exit ?_ | refine tc_ret ?_ | refine tc_skip ?_ | refine tc_cond_t rfl ?_ | refine tc_cond_f rfl ?_ | refine tk_then_n ?_ | refine tk_then_r ?_ | refine tk_then_e ?_ | refine tk_block_n ?_ | refine tk_block_r ?_ | refine tk_block_hit ?_ | refine tk_block_miss rfl ?_ | refine ‹∀ (e : Env) (As : List Atom), TC _ _ _ e As → TK _ _ e As› _ _ ?_)
    refine tk_ent (Ent.nilrow 56 6) ?_
    (first | apply tk_ret Try.results21 | apply tk_end Try.results21); (repeat (first | exact ResOK.nil | apply ResOK.tmp rfl | apply ResOK.agg rfl (by repeat (first | exact Has.here | refine Has.there ?_)) (by exact rfl) (by exact rfl) (by exact rfl) | apply ResOK.scalar rfl (by repeat (first | exact Has.here | refine Has.there ?_)) (by exact rfl) (by exact rfl))); intro w hw; refine ⟨_, _, rfl, ?_, hw⟩; try dsimp only [retV]
    simp at hc
    exact ⟨[], none, 0, by simp [openF, hc], nilH_nil, by simp [openF, hc], rfl⟩
  have hk : numB 1 k = true := by simpa using hc
  have hm : mayB (ss q) = true := hg4
  obtain ⟨hR, hh, h8⟩ := may_facts hm
  repeat (first | refine tc_region ?_ | (refine tc_seq ?_; intro K hK) | refine tc_block ?_ | refine tc_exit ?_ | refine tc_ret ?_ | refine tc_skip ?_ | refine tc_cond_t rfl ?_ | refine tc_cond_f rfl ?_ | refine tk_then_n ?_ | refine tk_then_r ?_ | refine tk_then_e ?_ | refine tk_block_n ?_ | refine tk_block_r ?_ | refine tk_block_hit ?_ | refine tk_block_miss rfl ?_ | refine ‹∀ (e : Env) (As : List Atom), TC _ _ _ e As → TK _ _ e As› _ _ ?_)
  refine tl_val (wanted_none rfl) (val_move rfl) rfl rfl ?_
  refine tl_val (wanted_none rfl) (val_move rfl) rfl rfl ?_
  (refine tl_eff (wanted_none rfl) (eff_call_val rfl rfl ok31 (fun w hw => findP_m q A c k w (hl.keep hw) hR)) rfl rfl ?_; rintro _ _ ⟨⟨r, bb, rfl, hpos, hb⟩, rfl⟩)
  refine tl_val (wanted_none rfl) (val_move rfl) rfl rfl ?_
  refine tl_val (wanted_none rfl) (val_extract rfl (by exact rfl)) rfl rfl ?_
  refine tl_val (wanted_none rfl) (val_extract rfl (by exact rfl)) rfl rfl ?_
  refine tl_val (wanted_none rfl) (val_assign rfl) rfl rfl ?_
  refine tl_val (wanted_none rfl) (val_assign rfl) rfl rfl ?_
  refine tl_nil ?_
  repeat (first | refine tc_region ?_ | (refine tc_seq ?_; intro K hK) | refine tc_block ?_ | refine tc_exit ?_ | refine tc_ret ?_ | refine tc_skip ?_ | refine tc_cond_t rfl ?_ | refine tc_cond_f rfl ?_ | refine tk_then_n ?_ | refine tk_then_r ?_ | refine tk_then_e ?_ | refine tk_block_n ?_ | refine tk_block_r ?_ | refine tk_block_hit ?_ | refine tk_block_miss rfl ?_ | refine ‹∀ (e : Env) (As : List Atom), TC _ _ _ e As → TK _ _ e As› _ _ ?_)
  have hf := find_conn hR hpos hb
  repeat (first | refine tc_region ?_ | (refine tc_seq ?_; intro K hK) | refine tc_block ?_ | refine tc_exit ?_ | refine tc_ret ?_ | refine tc_skip ?_ | refine tc_cond_t rfl ?_ | refine tc_cond_f rfl ?_ | refine tk_then_n ?_ | refine tk_then_r ?_ | refine tk_then_e ?_ | refine tk_block_n ?_ | refine tk_block_r ?_ | refine tk_block_hit ?_ | refine tk_block_miss rfl ?_ | refine ‹∀ (e : Env) (As : List Atom), TC _ _ _ e As → TK _ _ e As› _ _ ?_)
  refine tl_val (wanted_none rfl) (val_move rfl) rfl rfl ?_
  refine tl_nil ?_
  repeat (first | refine tc_region ?_ | (refine tc_seq ?_; intro K hK) | refine tc_block ?_ | refine tc_exit ?_ | refine tc_ret ?_ | refine tc_skip ?_ | refine tc_cond_t rfl ?_ | refine tc_cond_f rfl ?_ | refine tk_then_n ?_ | refine tk_then_r ?_ | refine tk_then_e ?_ | refine tk_block_n ?_ | refine tk_block_r ?_ | refine tk_block_hit ?_ | refine tk_block_miss rfl ?_ | refine ‹∀ (e : Env) (As : List Atom), TC _ _ _ e As → TK _ _ e As› _ _ ?_)
  refine tc_cond rfl (fun hc => ?_) (fun hc => ?_)
  · repeat (first | refine tc_region ?_ | (refine tc_seq ?_; intro K hK) | refine tc_block ?_ | refine tc_exit ?_ | refine tc_ret ?_ | refine tc_skip ?_ | refine tc_cond_t rfl ?_ | refine tc_cond_f rfl ?_ | refine tk_then_n ?_ | refine tk_then_r ?_ | refine tk_then_e ?_ | refine tk_block_n ?_ | refine tk_block_r ?_ | refine tk_block_hit ?_ | refine tk_block_miss rfl ?_ | refine ‹∀ (e : Env) (As : List Atom), TC _ _ _ e As → TK _ _ e As› _ _ ?_)
    refine tl_val (wanted_none rfl) (val_assign rfl) rfl rfl ?_
    refine tl_val (wanted_none rfl) (val_assign rfl) rfl rfl ?_
    refine tl_nil ?_
    repeat (first | refine tc_region ?_ | (refine tc_seq ?_; intro K hK) | refine tc_block ?_ | refine tc_exit ?_ | refine tc_ret ?_ | refine tc_skip ?_ | refine tc_cond_t rfl ?_ | refine tc_cond_f rfl ?_ | refine tk_then_n ?_ | refine tk_then_r ?_ | refine tk_then_e ?_ | refine tk_block_n ?_ | refine tk_block_r ?_ | refine tk_block_hit ?_ | refine tk_block_miss rfl ?_ | refine ‹∀ (e : Env) (As : List Atom), TC _ _ _ e As → TK _ _ e As› _ _ ?_)
    refine tk_ent (Ent.nilrow 56 6) ?_
    (first | apply tk_ret Try.results21 | apply tk_end Try.results21); (repeat (first | exact ResOK.nil | apply ResOK.tmp rfl | apply ResOK.agg rfl (by repeat (first | exact Has.here | refine Has.there ?_)) (by exact rfl) (by exact rfl) (by exact rfl) | apply ResOK.scalar rfl (by repeat (first | exact Has.here | refine Has.there ?_)) (by exact rfl) (by exact rfl))); intro w hw; refine ⟨_, _, rfl, ?_, hw⟩; try dsimp only [retV]
    have hbb : bb = true := hc
    have : openF (ss q) k = ([], 1) := by
      rw [openF, hf, if_pos hbb, if_neg]
      simp
    exact ⟨[], none, 0, by rw [this]; rfl, nilH_nil, by rw [this]; rfl, rfl⟩
  have hbb : bb = false := hc
  have hO : openF (ss q) k = (openS (ss q) k, 0) := by
    rw [openF, hf, hbb, if_pos]
    simp [hm, hk]
  repeat (first | refine tc_region ?_ | (refine tc_seq ?_; intro K hK) | refine tc_block ?_ | refine tc_exit ?_ | refine tc_ret ?_ | refine tc_skip ?_ | refine tc_cond_t rfl ?_ | refine tc_cond_f rfl ?_ | refine tk_then_n ?_ | refine tk_then_r ?_ | refine tk_then_e ?_ | refine tk_block_n ?_ | refine tk_block_r ?_ | refine tk_block_hit ?_ | refine tk_block_miss rfl ?_ | refine ‹∀ (e : Env) (As : List Atom), TC _ _ _ e As → TK _ _ e As› _ _ ?_)
  refine tl_val (wanted_none rfl) (val_move rfl) rfl rfl ?_
  (refine tl_eff (wanted_none rfl) (eff_call_at rfl rfl ok35 Pick.nil (fun w hw => own_m q A c w (hl.keep hw) (by omega))) rfl rfl ?_; rintro _ _ ⟨_, ⟨A1, c1, rfl, rfl⟩, rfl⟩; simp only [List.cons_append, List.nil_append])
  refine tl_val (wanted_none rfl) (val_assign rfl) rfl rfl ?_
  refine tl_nil ?_
  repeat (first | refine tc_region ?_ | (refine tc_seq ?_; intro K hK) | refine tc_block ?_ | refine tc_exit ?_ | refine tc_ret ?_ | refine tc_skip ?_ | refine tc_cond_t rfl ?_ | refine tc_cond_f rfl ?_ | refine tk_then_n ?_ | refine tk_then_r ?_ | refine tk_then_e ?_ | refine tk_block_n ?_ | refine tk_block_r ?_ | refine tk_block_hit ?_ | refine tk_block_miss rfl ?_ | refine ‹∀ (e : Env) (As : List Atom), TC _ _ _ e As → TK _ _ e As› _ _ ?_)
  have hs1 := ss_clq hh
  repeat (first | refine tc_region ?_ | (refine tc_seq ?_; intro K hK) | refine tc_block ?_ | refine tc_exit ?_ | refine tc_ret ?_ | refine tc_skip ?_ | refine tc_cond_t rfl ?_ | refine tc_cond_f rfl ?_ | refine tk_then_n ?_ | refine tk_then_r ?_ | refine tk_then_e ?_ | refine tk_block_n ?_ | refine tk_block_r ?_ | refine tk_block_hit ?_ | refine tk_block_miss rfl ?_ | refine ‹∀ (e : Env) (As : List Atom), TC _ _ _ e As → TK _ _ e As› _ _ ?_)
  refine tl_val (wanted_none rfl) (val_move rfl) rfl rfl ?_
  (first | refine tl_val (wanted_none rfl) (val_len_slice rfl rfl rfl rfl) rfl rfl ?_ | refine tl_val (wanted_none rfl) (val_len_string rfl rfl rfl rfl) rfl rfl ?_)
  (first | refine tl_val (wanted_none rfl) (val_eql rfl rfl) rfl rfl ?_ | refine tl_val (wanted_none rfl) (val_str_eql rfl rfl) rfl rfl ?_ | refine tl_val (wanted_none rfl) (val_bool_eql rfl rfl rfl rfl) rfl rfl ?_)
  refine tl_nil ?_
  repeat (first | refine tc_region ?_ | (refine tc_seq ?_; intro K hK) | refine tc_block ?_ | refine tc_exit ?_ | refine tc_ret ?_ | refine tc_skip ?_ | refine tc_cond_t rfl ?_ | refine tc_cond_f rfl ?_ | refine tk_then_n ?_ | refine tk_then_r ?_ | refine tk_then_e ?_ | refine tk_block_n ?_ | refine tk_block_r ?_ | refine tk_block_hit ?_ | refine tk_block_miss rfl ?_ | refine ‹∀ (e : Env) (As : List Atom), TC _ _ _ e As → TK _ _ e As› _ _ ?_)
  refine tc_cond_join (σ := List SQ × Option Addr × Nat) (fun s => [(8, .slice s.2.1 s.1.length s.2.2), (1, .int .i64 k)]) (fun s => [.row (.slice s.2.1 s.1.length s.2.2) 56 6 (s.1.map enc)]) (fun s => s.1.length ≤ 1000 ∧ Rises (ss s.1) ∧ openS (ss q) k = insS (ss s.1) k ∧ nilH s.1) rfl (fun hc J hJ => ?_) (fun hc J hJ => ?_) ?_
  · have h8' : (ss q).length = 8 := by simp at hc ⊢; omega
    have hlt := leastI_lt (ss q) (by omega)
    have hq8 : (q.map clq).length = 8 := by simpa using h8'
    repeat (first | refine tc_region ?_ | (refine tc_seq ?_; intro K hK) | refine tc_block ?_ | refine tc_exit ?_ | refine tc_ret ?_ | refine tc_skip ?_ | refine tc_cond_t rfl ?_ | refine tc_cond_f rfl ?_ | refine tk_then_n ?_ | refine tk_then_r ?_ | refine tk_then_e ?_ | refine tk_block_n ?_ | refine tk_block_r ?_ | refine tk_block_hit ?_ | refine tk_block_miss rfl ?_ | refine ‹∀ (e : Env) (As : List Atom), TC _ _ _ e As → TK _ _ e As› _ _ ?_)
    refine tl_val (wanted_none rfl) (val_move rfl) rfl rfl ?_
    refine tl_val (wanted_none rfl) (val_move rfl) rfl rfl ?_
    (refine tl_eff (wanted_none rfl) (eff_call_pure rfl rfl ok39 (fun w hw => least_m (q.map clq) A1 c1 w (Sl.row hw (by omega) Pick.nil (by repeat (first | exact Has.here | refine Has.there ?_)) (by omega)) (by omega))) rfl rfl ?_; rintro _ _ ⟨rfl, rfl⟩)
    (refine tl_eff (wanted_none rfl) (eff_call_at rfl rfl ok38 Pick.nil (fun w hw => without_m (q.map clq) A1 c1 (leastI (ss (q.map clq))) w (Sl.row hw (by omega) Pick.nil (by repeat (first | exact Has.here | refine Has.there ?_)) (by omega)) (by omega) (by omega) (by rw [hs1]; omega))) rfl rfl ?_; rintro _ _ ⟨_, ⟨A2, c2, rfl, rfl⟩, rfl⟩; simp only [List.cons_append, List.nil_append])
    refine tl_val (wanted_none rfl) (val_assign rfl) rfl rfl ?_
    refine tl_nil ?_
    repeat (first | refine tc_region ?_ | (refine tc_seq ?_; intro K hK) | refine tc_block ?_ | refine tc_exit ?_ | refine tc_ret ?_ | refine tc_skip ?_ | refine tc_cond_t rfl ?_ | refine tc_cond_f rfl ?_ | refine tk_then_n ?_ | refine tk_then_r ?_ | refine tk_then_e ?_ | refine tk_block_n ?_ | refine tk_block_r ?_ | refine tk_block_hit ?_ | refine tk_block_miss rfl ?_ | refine ‹∀ (e : Env) (As : List Atom), TC _ _ _ e As → TK _ _ e As› _ _ ?_)
    have e0 : ((q.map clq).map clq) = q.map clq := by simp [clq, clr]
    rw [Int.toNat_natCast, e0, hs1]
    have hss : ss ((q.map clq).eraseIdx (leastI (ss q))) = (ss q).eraseIdx (leastI (ss q)) := by
      show ((q.map clq).eraseIdx _).map _ = _
      rw [← erase_map]
      show (ss (q.map clq)).eraseIdx _ = _
      rw [hs1]
    refine TK.weaken (hJ ((q.map clq).eraseIdx (leastI (ss q)), A2, c2) ⟨?_, ?_, ?_, fun y hy => nilH_clq q y (List.mem_of_mem_eraseIdx hy)⟩) (by repeat (first | exact Sub.nil | apply Sub.cons rfl)) (Ent.pick (by repeat (first | exact Pick.nil | exact Rem.here | apply Rem.there | apply Pick.take)))
    · simp only
      rw [List.length_eraseIdx]
      split <;> omega
    · simp only
      rw [hss]
      exact rises_erase hR _
    · simp only
      rw [hss, openS, if_pos h8']
  · repeat (first | refine tc_exit ?_ | refine tc_ret ?_ | refine tc_skip ?_ | refine tc_cond_t rfl ?_ | refine tc_cond_f rfl ?_ | refine tk_then_n ?_ | refine tk_then_r ?_ | refine tk_then_e ?_ | refine tk_block_n ?_ | refine tk_block_r ?_ | refine tk_block_hit ?_ | refine tk_block_miss rfl ?_)
    refine TK.weaken (hJ (q.map clq, A1, c1) ⟨by simp; omega, by simp only; rw [hs1]; exact hR, ?_, nilH_clq q⟩) (by repeat (first | exact Sub.nil | apply Sub.cons rfl)) (Ent.pick (by repeat (first | exact Pick.nil | exact Rem.here | apply Rem.there | apply Pick.take)))
    simp only
    rw [hs1, openS, if_neg]
    simp at hc ⊢
    omega
  rintro ⟨q2, A2, c2⟩ ⟨hb2, hR2, hop, hnl⟩
  simp only at hb2 hR2 hop hnl
  simp only
  repeat (first | refine tc_region ?_ | (refine tc_seq ?_; intro K hK) | refine tc_block ?_ | refine tc_exit ?_ | refine tc_ret ?_ | refine tc_skip ?_ | refine tc_cond_t rfl ?_ | refine tc_cond_f rfl ?_ | refine tk_then_n ?_ | refine tk_then_r ?_ | refine tk_then_e ?_ | refine tk_block_n ?_ | refine tk_block_r ?_ | refine tk_block_hit ?_ | refine tk_block_miss rfl ?_ | refine ‹∀ (e : Env) (As : List Atom), TC _ _ _ e As → TK _ _ e As› _ _ ?_)
  refine tl_val (wanted_none rfl) (val_move rfl) rfl rfl ?_
  refine tl_val (wanted_none rfl) (val_move rfl) rfl rfl ?_
  (refine tl_eff (wanted_none rfl) (eff_call_val rfl rfl ok31 (fun w hw => findP_m q2 A2 c2 k w (Sl.row hw (by omega) Pick.nil (by repeat (first | exact Has.here | refine Has.there ?_)) (by omega)) hR2)) rfl rfl ?_; rintro _ _ ⟨⟨r2, b2, rfl, hpos2, hb2'⟩, rfl⟩)
  refine tl_val (wanted_none rfl) (val_move rfl) rfl rfl ?_
  refine tl_val (wanted_none rfl) (val_extract rfl (by exact rfl)) rfl rfl ?_
  refine tl_val (wanted_none rfl) (val_extract rfl (by exact rfl)) rfl rfl ?_
  refine tl_val (wanted_none rfl) (val_assign rfl) rfl rfl ?_
  refine tl_val (wanted_none rfl) (val_assign rfl) rfl rfl ?_
  refine tl_nil ?_
  repeat (first | refine tc_region ?_ | (refine tc_seq ?_; intro K hK) | refine tc_block ?_ | refine tc_exit ?_ | refine tc_ret ?_ | refine tc_skip ?_ | refine tc_cond_t rfl ?_ | refine tc_cond_f rfl ?_ | refine tk_then_n ?_ | refine tk_then_r ?_ | refine tk_then_e ?_ | refine tk_block_n ?_ | refine tk_block_r ?_ | refine tk_block_hit ?_ | refine tk_block_miss rfl ?_ | refine ‹∀ (e : Env) (As : List Atom), TC _ _ _ e As → TK _ _ e As› _ _ ?_)
  have hr2 : r2 ≤ q2.length := by simpa using hpos2.le
  repeat (first | refine tc_region ?_ | (refine tc_seq ?_; intro K hK) | refine tc_block ?_ | refine tc_exit ?_ | refine tc_ret ?_ | refine tc_skip ?_ | refine tc_cond_t rfl ?_ | refine tc_cond_f rfl ?_ | refine tk_then_n ?_ | refine tk_then_r ?_ | refine tk_then_e ?_ | refine tk_block_n ?_ | refine tk_block_r ?_ | refine tk_block_hit ?_ | refine tk_block_miss rfl ?_ | refine ‹∀ (e : Env) (As : List Atom), TC _ _ _ e As → TK _ _ e As› _ _ ?_)
  refine tl_val (wanted_none rfl) (val_move rfl) rfl rfl ?_
  refine tl_val (wanted_none rfl) (val_move rfl) rfl rfl ?_
  refine tl_val (wanted_none rfl) (val_move rfl) rfl rfl ?_
  refine tl_val (wanted_none rfl) (val_move rfl) rfl rfl ?_
  refine tl_val (wanted_none rfl) (val_build rfl (by exact rfl) (by exact rfl) (by exact rfl)) rfl rfl ?_
  (refine tl_eff (wanted_none rfl) (eff_buildSlice1 rfl (by simp only [Value.cells, List.toList_toArray]; exact rfl) rfl rfl rfl rfl rfl rfl) rfl rfl ?_; rintro _ _ ⟨b, rfl, rfl⟩)
  (refine tl_eff (wanted_none rfl) (eff_call_own [.row (.slice A2 q2.length c2) 56 6 (q2.map enc)] rfl rfl ok40 (by repeat (first | exact Pick.nil | exact Rem.here | apply Rem.there | apply Pick.take)) (fun w hw hb' => insert_m (q2.map enc) (enc (newS k, none, 0)) A2 q2.length c2 _ 56 r2 w hb' (by omega) (by simp; omega) (by simp; omega) (fun c hc => (enc_ok _ c hc).2) rfl rfl (hw.blkO (by repeat (first | exact Pick.nil | exact Rem.here | apply Rem.there | apply Pick.take)) Has.here))) rfl rfl ?_; rintro _ _ ⟨_, ⟨A3, c3, rfl, rfl⟩, rfl⟩; simp only [List.cons_append, List.nil_append])
  refine tl_val (wanted_none rfl) (val_assign rfl) rfl rfl ?_
  refine tl_val (wanted_none rfl) (val_assign rfl) rfl rfl ?_
  refine tl_nil ?_
  repeat (first | refine tc_region ?_ | (refine tc_seq ?_; intro K hK) | refine tc_block ?_ | refine tc_exit ?_ | refine tc_ret ?_ | refine tc_skip ?_ | refine tc_cond_t rfl ?_ | refine tc_cond_f rfl ?_ | refine tk_then_n ?_ | refine tk_then_r ?_ | refine tk_then_e ?_ | refine tk_block_n ?_ | refine tk_block_r ?_ | refine tk_block_hit ?_ | refine tk_block_miss rfl ?_ | refine ‹∀ (e : Env) (As : List Atom), TC _ _ _ e As → TK _ _ e As› _ _ ?_)
  have e1 : (q2.map enc).take (r2 : Int).toNat ++ enc (newS k, none, 0) :: (q2.map enc).drop (r2 : Int).toNat = (q2.take r2 ++ (newS k, none, 0) :: q2.drop r2).map enc := by
    rw [Int.toNat_natCast]
    simp [List.map_take, List.map_drop]
  rw [e1, List.length_map]
  (first | apply tk_ret Try.results21 | apply tk_end Try.results21); (repeat (first | exact ResOK.nil | apply ResOK.tmp rfl | apply ResOK.agg rfl (by repeat (first | exact Has.here | refine Has.there ?_)) (by exact rfl) (by exact rfl) (by exact rfl) | apply ResOK.scalar rfl (by repeat (first | exact Has.here | refine Has.there ?_)) (by exact rfl) (by exact rfl))); intro w hw; refine ⟨_, [.row (.slice A3 (q2.take r2 ++ (newS k, none, 0) :: q2.drop r2).length c3) 56 6 ((q2.take r2 ++ (newS k, none, 0) :: q2.drop r2).map enc)], rfl, ?_, hw.pick (by repeat (first | exact Pick.nil | exact Rem.here | apply Rem.there | apply Pick.take))⟩; try dsimp only [retV]
  refine ⟨q2.take r2 ++ (newS k, none, 0) :: q2.drop r2, A3, c3, ?_, fun y hy => ?_, by rw [hO], rfl⟩
  rotate_left
  · rcases List.mem_append.1 hy with hy | hy
    · exact hnl y (List.mem_of_mem_take hy)
    · rcases List.mem_cons.1 hy with rfl | hy
      · rfl
      · exact hnl y (List.mem_of_mem_drop hy)
  rw [hO]
  simp only
  rw [hop, insS, posI_pos hpos2]
  simp [ss, List.map_take, List.map_drop]
def doneF (l : List Sess) (k seq : Int) (r : Sess) (idx : Int) : List Sess × Int := if mayB l = true then doneS l k seq r idx else ([], 1)
theorem doneP_m (q : List SQ) (A : Option Addr) (c : Nat) (k seq : Int) (r : SQ) (idx : Int) (w : World) (hl : Sl w (fpAll []) enc 6 q A c) :
    Meets Try.prog 15 [.slice A q.length c, .int .i64 k, .int .i64 seq, .agg (repl r).toArray, .int .i64 idx] w (fpAll []) (ResP (doneF (ss q) k seq r.1 idx)) := by
  have hmr := reply_m r
  simp only [repl] at hmr ⊢
  refine enter tysOK Try.func15 rfl Try.ntmps15 rfl (HeapOK.start w) ?_
  repeat (first | refine tc_region ?_ | (refine tc_seq ?_; intro K hK) | refine tc_block ?_ | refine tc_exit ?_ | refine tc_ret ?_ | refine tc_skip ?_ | refine tc_cond_t rfl ?_ | refine tc_cond_f rfl ?_ | refine tk_then_n ?_ | refine tk_then_r ?_ | refine tk_then_e ?_ | refine tk_block_n ?_ | refine tk_block_r ?_ | refine tk_block_hit ?_ | refine tk_block_miss rfl ?_ | refine ‹∀ (e : Env) (As : List Atom), TC _ _ _ e As → TK _ _ e As› _ _ ?_)
  (refine tl_eff (wanted_none rfl) (eff_box rfl (by simp only [Value.cells, List.toList_toArray]; exact rfl)) rfl rfl ?_; rintro _ _ ⟨b, rfl, rfl⟩)
  refine tl_val (wanted_none rfl) (val_assign rfl) rfl rfl ?_
  refine tl_val (wanted_none rfl) (val_assign rfl) rfl rfl ?_
  refine tl_nil ?_
  repeat (first | refine tc_region ?_ | (refine tc_seq ?_; intro K hK) | refine tc_block ?_ | refine tc_exit ?_ | refine tc_ret ?_ | refine tc_skip ?_ | refine tc_cond_t rfl ?_ | refine tc_cond_f rfl ?_ | refine tk_then_n ?_ | refine tk_then_r ?_ | refine tk_then_e ?_ | refine tk_block_n ?_ | refine tk_block_r ?_ | refine tk_block_hit ?_ | refine tk_block_miss rfl ?_ | refine ‹∀ (e : Env) (As : List Atom), TC _ _ _ e As → TK _ _ e As› _ _ ?_)
  refine tl_val (wanted_none rfl) (val_move rfl) rfl rfl ?_
  (refine tl_eff (wanted_none rfl) (eff_call_pure rfl rfl ok28 (fun w hw => mayP_m q A c w (hl.keep hw))) rfl rfl ?_; rintro _ _ ⟨rfl, rfl⟩)
  refine tl_val (wanted_none rfl) (val_not rfl) rfl rfl ?_
  refine tl_val (wanted_none rfl) (val_move rfl) rfl rfl ?_
  refine tl_case_g rfl rfl rfl (fun hg4 => ?_) (fun hg4 => ?_)
  · (first | refine tl_val (wanted_some rfl rfl rfl) (val_move rfl) rfl rfl ?_ | refine tl_skip (by first | exact unwanted_t rfl rfl rfl | exact unwanted_f rfl rfl rfl | exact unwanted_u rfl rfl rfl) rfl rfl ?_)
    (first | refine tl_skip (by first | exact unwanted_t rfl rfl rfl | exact unwanted_f rfl rfl rfl | exact unwanted_u rfl rfl rfl) rfl rfl ?_ | (refine tl_eff (wanted_some rfl rfl rfl) (eff_call_pure rfl rfl ok30 (fun w hw => number_m _ _ w)) rfl rfl ?_; rintro _ _ ⟨rfl, rfl⟩))
    (first | refine tl_val (wanted_some rfl rfl rfl) (val_not rfl) rfl rfl ?_ | refine tl_skip (by first | exact unwanted_t rfl rfl rfl | exact unwanted_f rfl rfl rfl | exact unwanted_u rfl rfl rfl) rfl rfl ?_)
    (first | refine tl_val (wanted_none rfl) (val_pick_t rfl rfl) rfl rfl ?_ | refine tl_val (wanted_none rfl) (val_pick_f rfl rfl) rfl rfl ?_)
    refine tl_val (wanted_none rfl) (val_move rfl) rfl rfl ?_
    (first | refine tl_val (wanted_some rfl rfl rfl) (val_move rfl) rfl rfl ?_ | refine tl_skip (by first | exact unwanted_t rfl rfl rfl | exact unwanted_f rfl rfl rfl | exact unwanted_u rfl rfl rfl) rfl rfl ?_)
    (first | refine tl_skip (by first | exact unwanted_t rfl rfl rfl | exact unwanted_f rfl rfl rfl | exact unwanted_u rfl rfl rfl) rfl rfl ?_ | (refine tl_eff (wanted_some rfl rfl rfl) (eff_call_pure rfl rfl ok30 (fun w hw => number_m _ _ w)) rfl rfl ?_; rintro _ _ ⟨rfl, rfl⟩))
    (first | refine tl_val (wanted_some rfl rfl rfl) (val_not rfl) rfl rfl ?_ | refine tl_skip (by first | exact unwanted_t rfl rfl rfl | exact unwanted_f rfl rfl rfl | exact unwanted_u rfl rfl rfl) rfl rfl ?_)
    (first | refine tl_val (wanted_none rfl) (val_pick_t rfl rfl) rfl rfl ?_ | refine tl_val (wanted_none rfl) (val_pick_f rfl rfl) rfl rfl ?_)
    refine tl_val (wanted_none rfl) (val_move rfl) rfl rfl ?_
    (first | refine tl_val (wanted_some rfl rfl rfl) (val_load rfl (by repeat (first | exact Has.here | refine Has.there ?_)) (by exact rfl) (by exact rfl) (by exact rfl)) rfl rfl ?_ | refine tl_val (wanted_some rfl rfl rfl) (val_load_agg rfl (by repeat (first | exact Has.here | refine Has.there ?_)) (by exact rfl) (by exact rfl) (by simp only [Nat.reduceAdd, Nat.zero_add, Nat.add_zero, List.set_cons_zero, List.set_cons_succ, List.set_nil, List.drop_succ_cons, List.drop_zero, List.take_succ_cons, List.take_zero, List.take_nil, List.drop_nil, setL, ty31]; exact rfl) (by exact rfl)) rfl rfl ?_ | refine tl_skip (by first | exact unwanted_t rfl rfl rfl | exact unwanted_f rfl rfl rfl | exact unwanted_u rfl rfl rfl) rfl rfl ?_)
    (first | refine tl_skip (by first | exact unwanted_t rfl rfl rfl | exact unwanted_f rfl rfl rfl | exact unwanted_u rfl rfl rfl) rfl rfl ?_ | (refine tl_eff (wanted_some rfl rfl rfl) (eff_call_pure rfl rfl ok34 (fun w hw => hmr w)) rfl rfl ?_; rintro _ _ ⟨rfl, rfl⟩))
    (first | refine tl_val (wanted_some rfl rfl rfl) (val_not rfl) rfl rfl ?_ | refine tl_skip (by first | exact unwanted_t rfl rfl rfl | exact unwanted_f rfl rfl rfl | exact unwanted_u rfl rfl rfl) rfl rfl ?_)
    (first | refine tl_val (wanted_none rfl) (val_pick_t rfl rfl) rfl rfl ?_ | refine tl_val (wanted_none rfl) (val_pick_f rfl rfl) rfl rfl ?_)
    refine tl_nil ?_
    repeat (first | refine tc_region ?_ | (refine tc_seq ?_; intro K hK) | refine tc_block ?_ | refine tc_exit ?_ | refine tc_ret ?_ | refine tc_skip ?_ | refine tc_cond_t rfl ?_ | refine tc_cond_f rfl ?_ | refine tk_then_n ?_ | refine tk_then_r ?_ | refine tk_then_e ?_ | refine tk_block_n ?_ | refine tk_block_r ?_ | refine tk_block_hit ?_ | refine tk_block_miss rfl ?_ | refine ‹∀ (e : Env) (As : List Atom), TC _ _ _ e As → TK _ _ e As› _ _ ?_)
    repeat (first | refine tc_region ?_ | (refine tc_seq ?_; intro K hK) | refine tc_block ?_ | refine tc_exit ?_ | refine tc_ret ?_ | refine tc_skip ?_ | refine tc_cond_t rfl ?_ | refine tc_cond_f rfl ?_ | refine tk_then_n ?_ | refine tk_then_r ?_ | refine tk_then_e ?_ | refine tk_block_n ?_ | refine tk_block_r ?_ | refine tk_block_hit ?_ | refine tk_block_miss rfl ?_ | refine ‹∀ (e : Env) (As : List Atom), TC _ _ _ e As → TK _ _ e As› _ _ ?_)
    refine tl_val (wanted_none rfl) (val_assign rfl) rfl rfl ?_
    refine tl_val (wanted_none rfl) (val_assign rfl) rfl rfl ?_
    refine tl_nil ?_
    repeat (first | refine tc_region ?_ | (refine tc_seq ?_; intro K hK) | refine tc_block ?_ | refine tc_exit ?_ | refine tc_ret ?_ | refine tc_skip ?_ | refine tc_cond_t rfl ?_ | refine tc_cond_f rfl ?_ | refine tk_then_n ?_ | refine tk_then_r ?_ | refine tk_then_e ?_ | refine tk_block_n ?_ | refine tk_block_r ?_ | refine tk_block_hit ?_ | refine tk_block_miss rfl ?_ | refine ‹∀ (e : Env) (As : List Atom), TC _ _ _ e As → TK _ _ e As› _ _ ?_)
    refine tk_ent (Ent.nilrow 56 6) ?_
    (first | apply tk_ret Try.results15 | apply tk_end Try.results15); (repeat (first | exact ResOK.nil | apply ResOK.tmp rfl | apply ResOK.agg rfl (by repeat (first | exact Has.here | refine Has.there ?_)) (by exact rfl) (by exact rfl) (by exact rfl) | apply ResOK.scalar rfl (by repeat (first | exact Has.here | refine Has.there ?_)) (by exact rfl) (by exact rfl))); intro w hw; refine ⟨_, [.row (.slice none 0 0) 56 6 []], rfl, ?_, hw.pick (by repeat (first | exact Pick.nil | exact Rem.here | apply Rem.there | apply Pick.take))⟩; try dsimp only [retV]
    (try simp only [Bool.not_eq_true', Bool.not_eq_false', decide_eq_true_eq, decide_eq_false_iff_not] at hg4); (try simp only [Bool.not_eq_true', Bool.not_eq_false', decide_eq_true_eq, decide_eq_false_iff_not] at hg9); (try simp only [Bool.not_eq_true', Bool.not_eq_false', decide_eq_true_eq, decide_eq_false_iff_not] at hg14)
    exact ⟨[], none, 0, by simp [doneF, doneS, *], nilH_nil, by simp [doneF, doneS, *], rfl⟩
  (first | refine tl_val (wanted_some rfl rfl rfl) (val_move rfl) rfl rfl ?_ | refine tl_skip (by first | exact unwanted_t rfl rfl rfl | exact unwanted_f rfl rfl rfl | exact unwanted_u rfl rfl rfl) rfl rfl ?_)
  (first | refine tl_skip (by first | exact unwanted_t rfl rfl rfl | exact unwanted_f rfl rfl rfl | exact unwanted_u rfl rfl rfl) rfl rfl ?_ | (refine tl_eff (wanted_some rfl rfl rfl) (eff_call_pure rfl rfl ok30 (fun w hw => number_m _ _ w)) rfl rfl ?_; rintro _ _ ⟨rfl, rfl⟩))
  (first | refine tl_val (wanted_some rfl rfl rfl) (val_not rfl) rfl rfl ?_ | refine tl_skip (by first | exact unwanted_t rfl rfl rfl | exact unwanted_f rfl rfl rfl | exact unwanted_u rfl rfl rfl) rfl rfl ?_)
  (first | refine tl_val (wanted_none rfl) (val_pick_t rfl rfl) rfl rfl ?_ | refine tl_val (wanted_none rfl) (val_pick_f rfl rfl) rfl rfl ?_)
  refine tl_val (wanted_none rfl) (val_move rfl) rfl rfl ?_
  refine tl_case_g rfl rfl rfl (fun hg9 => ?_) (fun hg9 => ?_)
  · (first | refine tl_val (wanted_some rfl rfl rfl) (val_move rfl) rfl rfl ?_ | refine tl_skip (by first | exact unwanted_t rfl rfl rfl | exact unwanted_f rfl rfl rfl | exact unwanted_u rfl rfl rfl) rfl rfl ?_)
    (first | refine tl_skip (by first | exact unwanted_t rfl rfl rfl | exact unwanted_f rfl rfl rfl | exact unwanted_u rfl rfl rfl) rfl rfl ?_ | (refine tl_eff (wanted_some rfl rfl rfl) (eff_call_pure rfl rfl ok30 (fun w hw => number_m _ _ w)) rfl rfl ?_; rintro _ _ ⟨rfl, rfl⟩))
    (first | refine tl_val (wanted_some rfl rfl rfl) (val_not rfl) rfl rfl ?_ | refine tl_skip (by first | exact unwanted_t rfl rfl rfl | exact unwanted_f rfl rfl rfl | exact unwanted_u rfl rfl rfl) rfl rfl ?_)
    (first | refine tl_val (wanted_none rfl) (val_pick_t rfl rfl) rfl rfl ?_ | refine tl_val (wanted_none rfl) (val_pick_f rfl rfl) rfl rfl ?_)
    refine tl_val (wanted_none rfl) (val_move rfl) rfl rfl ?_
    (first | refine tl_val (wanted_some rfl rfl rfl) (val_load rfl (by repeat (first | exact Has.here | refine Has.there ?_)) (by exact rfl) (by exact rfl) (by exact rfl)) rfl rfl ?_ | refine tl_val (wanted_some rfl rfl rfl) (val_load_agg rfl (by repeat (first | exact Has.here | refine Has.there ?_)) (by exact rfl) (by exact rfl) (by simp only [Nat.reduceAdd, Nat.zero_add, Nat.add_zero, List.set_cons_zero, List.set_cons_succ, List.set_nil, List.drop_succ_cons, List.drop_zero, List.take_succ_cons, List.take_zero, List.take_nil, List.drop_nil, setL, ty31]; exact rfl) (by exact rfl)) rfl rfl ?_ | refine tl_skip (by first | exact unwanted_t rfl rfl rfl | exact unwanted_f rfl rfl rfl | exact unwanted_u rfl rfl rfl) rfl rfl ?_)
    (first | refine tl_skip (by first | exact unwanted_t rfl rfl rfl | exact unwanted_f rfl rfl rfl | exact unwanted_u rfl rfl rfl) rfl rfl ?_ | (refine tl_eff (wanted_some rfl rfl rfl) (eff_call_pure rfl rfl ok34 (fun w hw => hmr w)) rfl rfl ?_; rintro _ _ ⟨rfl, rfl⟩))
    (first | refine tl_val (wanted_some rfl rfl rfl) (val_not rfl) rfl rfl ?_ | refine tl_skip (by first | exact unwanted_t rfl rfl rfl | exact unwanted_f rfl rfl rfl | exact unwanted_u rfl rfl rfl) rfl rfl ?_)
    (first | refine tl_val (wanted_none rfl) (val_pick_t rfl rfl) rfl rfl ?_ | refine tl_val (wanted_none rfl) (val_pick_f rfl rfl) rfl rfl ?_)
    refine tl_nil ?_
    repeat (first | refine tc_region ?_ | (refine tc_seq ?_; intro K hK) | refine tc_block ?_ | refine tc_exit ?_ | refine tc_ret ?_ | refine tc_skip ?_ | refine tc_cond_t rfl ?_ | refine tc_cond_f rfl ?_ | refine tk_then_n ?_ | refine tk_then_r ?_ | refine tk_then_e ?_ | refine tk_block_n ?_ | refine tk_block_r ?_ | refine tk_block_hit ?_ | refine tk_block_miss rfl ?_ | refine ‹∀ (e : Env) (As : List Atom), TC _ _ _ e As → TK _ _ e As› _ _ ?_)
    repeat (first | refine tc_region ?_ | (refine tc_seq ?_; intro K hK) | refine tc_block ?_ | refine tc_exit ?_ | refine tc_ret ?_ | refine tc_skip ?_ | refine tc_cond_t rfl ?_ | refine tc_cond_f rfl ?_ | refine tk_then_n ?_ | refine tk_then_r ?_ | refine tk_then_e ?_ | refine tk_block_n ?_ | refine tk_block_r ?_ | refine tk_block_hit ?_ | refine tk_block_miss rfl ?_ | refine ‹∀ (e : Env) (As : List Atom), TC _ _ _ e As → TK _ _ e As› _ _ ?_)
    refine tl_val (wanted_none rfl) (val_assign rfl) rfl rfl ?_
    refine tl_val (wanted_none rfl) (val_assign rfl) rfl rfl ?_
    refine tl_nil ?_
    repeat (first | refine tc_region ?_ | (refine tc_seq ?_; intro K hK) | refine tc_block ?_ | refine tc_exit ?_ | refine tc_ret ?_ | refine tc_skip ?_ | refine tc_cond_t rfl ?_ | refine tc_cond_f rfl ?_ | refine tk_then_n ?_ | refine tk_then_r ?_ | refine tk_then_e ?_ | refine tk_block_n ?_ | refine tk_block_r ?_ | refine tk_block_hit ?_ | refine tk_block_miss rfl ?_ | refine ‹∀ (e : Env) (As : List Atom), TC _ _ _ e As → TK _ _ e As› _ _ ?_)
    refine tk_ent (Ent.nilrow 56 6) ?_
    (first | apply tk_ret Try.results15 | apply tk_end Try.results15); (repeat (first | exact ResOK.nil | apply ResOK.tmp rfl | apply ResOK.agg rfl (by repeat (first | exact Has.here | refine Has.there ?_)) (by exact rfl) (by exact rfl) (by exact rfl) | apply ResOK.scalar rfl (by repeat (first | exact Has.here | refine Has.there ?_)) (by exact rfl) (by exact rfl))); intro w hw; refine ⟨_, [.row (.slice none 0 0) 56 6 []], rfl, ?_, hw.pick (by repeat (first | exact Pick.nil | exact Rem.here | apply Rem.there | apply Pick.take))⟩; try dsimp only [retV]
    (try simp only [Bool.not_eq_true', Bool.not_eq_false', decide_eq_true_eq, decide_eq_false_iff_not] at hg4); (try simp only [Bool.not_eq_true', Bool.not_eq_false', decide_eq_true_eq, decide_eq_false_iff_not] at hg9); (try simp only [Bool.not_eq_true', Bool.not_eq_false', decide_eq_true_eq, decide_eq_false_iff_not] at hg14)
    exact ⟨[], none, 0, by simp [doneF, doneS, *], nilH_nil, by simp [doneF, doneS, *], rfl⟩
  (first | refine tl_val (wanted_some rfl rfl rfl) (val_move rfl) rfl rfl ?_ | refine tl_skip (by first | exact unwanted_t rfl rfl rfl | exact unwanted_f rfl rfl rfl | exact unwanted_u rfl rfl rfl) rfl rfl ?_)
  (first | refine tl_skip (by first | exact unwanted_t rfl rfl rfl | exact unwanted_f rfl rfl rfl | exact unwanted_u rfl rfl rfl) rfl rfl ?_ | (refine tl_eff (wanted_some rfl rfl rfl) (eff_call_pure rfl rfl ok30 (fun w hw => number_m _ _ w)) rfl rfl ?_; rintro _ _ ⟨rfl, rfl⟩))
  (first | refine tl_val (wanted_some rfl rfl rfl) (val_not rfl) rfl rfl ?_ | refine tl_skip (by first | exact unwanted_t rfl rfl rfl | exact unwanted_f rfl rfl rfl | exact unwanted_u rfl rfl rfl) rfl rfl ?_)
  (first | refine tl_val (wanted_none rfl) (val_pick_t rfl rfl) rfl rfl ?_ | refine tl_val (wanted_none rfl) (val_pick_f rfl rfl) rfl rfl ?_)
  refine tl_val (wanted_none rfl) (val_move rfl) rfl rfl ?_
  refine tl_case_g rfl rfl rfl (fun hg14 => ?_) (fun hg14 => ?_)
  · (first | refine tl_val (wanted_some rfl rfl rfl) (val_load rfl (by repeat (first | exact Has.here | refine Has.there ?_)) (by exact rfl) (by exact rfl) (by exact rfl)) rfl rfl ?_ | refine tl_val (wanted_some rfl rfl rfl) (val_load_agg rfl (by repeat (first | exact Has.here | refine Has.there ?_)) (by exact rfl) (by exact rfl) (by simp only [Nat.reduceAdd, Nat.zero_add, Nat.add_zero, List.set_cons_zero, List.set_cons_succ, List.set_nil, List.drop_succ_cons, List.drop_zero, List.take_succ_cons, List.take_zero, List.take_nil, List.drop_nil, setL, ty31]; exact rfl) (by exact rfl)) rfl rfl ?_ | refine tl_skip (by first | exact unwanted_t rfl rfl rfl | exact unwanted_f rfl rfl rfl | exact unwanted_u rfl rfl rfl) rfl rfl ?_)
    (first | refine tl_skip (by first | exact unwanted_t rfl rfl rfl | exact unwanted_f rfl rfl rfl | exact unwanted_u rfl rfl rfl) rfl rfl ?_ | (refine tl_eff (wanted_some rfl rfl rfl) (eff_call_pure rfl rfl ok34 (fun w hw => hmr w)) rfl rfl ?_; rintro _ _ ⟨rfl, rfl⟩))
    (first | refine tl_val (wanted_some rfl rfl rfl) (val_not rfl) rfl rfl ?_ | refine tl_skip (by first | exact unwanted_t rfl rfl rfl | exact unwanted_f rfl rfl rfl | exact unwanted_u rfl rfl rfl) rfl rfl ?_)
    (first | refine tl_val (wanted_none rfl) (val_pick_t rfl rfl) rfl rfl ?_ | refine tl_val (wanted_none rfl) (val_pick_f rfl rfl) rfl rfl ?_)
    refine tl_nil ?_
    repeat (first | refine tc_region ?_ | (refine tc_seq ?_; intro K hK) | refine tc_block ?_ | refine tc_exit ?_ | refine tc_ret ?_ | refine tc_skip ?_ | refine tc_cond_t rfl ?_ | refine tc_cond_f rfl ?_ | refine tk_then_n ?_ | refine tk_then_r ?_ | refine tk_then_e ?_ | refine tk_block_n ?_ | refine tk_block_r ?_ | refine tk_block_hit ?_ | refine tk_block_miss rfl ?_ | refine ‹∀ (e : Env) (As : List Atom), TC _ _ _ e As → TK _ _ e As› _ _ ?_)
    repeat (first | refine tc_region ?_ | (refine tc_seq ?_; intro K hK) | refine tc_block ?_ | refine tc_exit ?_ | refine tc_ret ?_ | refine tc_skip ?_ | refine tc_cond_t rfl ?_ | refine tc_cond_f rfl ?_ | refine tk_then_n ?_ | refine tk_then_r ?_ | refine tk_then_e ?_ | refine tk_block_n ?_ | refine tk_block_r ?_ | refine tk_block_hit ?_ | refine tk_block_miss rfl ?_ | refine ‹∀ (e : Env) (As : List Atom), TC _ _ _ e As → TK _ _ e As› _ _ ?_)
    refine tl_val (wanted_none rfl) (val_assign rfl) rfl rfl ?_
    refine tl_val (wanted_none rfl) (val_assign rfl) rfl rfl ?_
    refine tl_nil ?_
    repeat (first | refine tc_region ?_ | (refine tc_seq ?_; intro K hK) | refine tc_block ?_ | refine tc_exit ?_ | refine tc_ret ?_ | refine tc_skip ?_ | refine tc_cond_t rfl ?_ | refine tc_cond_f rfl ?_ | refine tk_then_n ?_ | refine tk_then_r ?_ | refine tk_then_e ?_ | refine tk_block_n ?_ | refine tk_block_r ?_ | refine tk_block_hit ?_ | refine tk_block_miss rfl ?_ | refine ‹∀ (e : Env) (As : List Atom), TC _ _ _ e As → TK _ _ e As› _ _ ?_)
    refine tk_ent (Ent.nilrow 56 6) ?_
    (first | apply tk_ret Try.results15 | apply tk_end Try.results15); (repeat (first | exact ResOK.nil | apply ResOK.tmp rfl | apply ResOK.agg rfl (by repeat (first | exact Has.here | refine Has.there ?_)) (by exact rfl) (by exact rfl) (by exact rfl) | apply ResOK.scalar rfl (by repeat (first | exact Has.here | refine Has.there ?_)) (by exact rfl) (by exact rfl))); intro w hw; refine ⟨_, [.row (.slice none 0 0) 56 6 []], rfl, ?_, hw.pick (by repeat (first | exact Pick.nil | exact Rem.here | apply Rem.there | apply Pick.take))⟩; try dsimp only [retV]
    (try simp only [Bool.not_eq_true', Bool.not_eq_false', decide_eq_true_eq, decide_eq_false_iff_not] at hg4); (try simp only [Bool.not_eq_true', Bool.not_eq_false', decide_eq_true_eq, decide_eq_false_iff_not] at hg9); (try simp only [Bool.not_eq_true', Bool.not_eq_false', decide_eq_true_eq, decide_eq_false_iff_not] at hg14)
    exact ⟨[], none, 0, by simp [doneF, doneS, *], nilH_nil, by simp [doneF, doneS, *], rfl⟩
  (first | refine tl_val (wanted_some rfl rfl rfl) (val_load rfl (by repeat (first | exact Has.here | refine Has.there ?_)) (by exact rfl) (by exact rfl) (by exact rfl)) rfl rfl ?_ | refine tl_val (wanted_some rfl rfl rfl) (val_load_agg rfl (by repeat (first | exact Has.here | refine Has.there ?_)) (by exact rfl) (by exact rfl) (by simp only [Nat.reduceAdd, Nat.zero_add, Nat.add_zero, List.set_cons_zero, List.set_cons_succ, List.set_nil, List.drop_succ_cons, List.drop_zero, List.take_succ_cons, List.take_zero, List.take_nil, List.drop_nil, setL, ty31]; exact rfl) (by exact rfl)) rfl rfl ?_ | refine tl_skip (by first | exact unwanted_t rfl rfl rfl | exact unwanted_f rfl rfl rfl | exact unwanted_u rfl rfl rfl) rfl rfl ?_)
  (first | refine tl_skip (by first | exact unwanted_t rfl rfl rfl | exact unwanted_f rfl rfl rfl | exact unwanted_u rfl rfl rfl) rfl rfl ?_ | (refine tl_eff (wanted_some rfl rfl rfl) (eff_call_pure rfl rfl ok34 (fun w hw => hmr w)) rfl rfl ?_; rintro _ _ ⟨rfl, rfl⟩))
  (first | refine tl_val (wanted_some rfl rfl rfl) (val_not rfl) rfl rfl ?_ | refine tl_skip (by first | exact unwanted_t rfl rfl rfl | exact unwanted_f rfl rfl rfl | exact unwanted_u rfl rfl rfl) rfl rfl ?_)
  (first | refine tl_val (wanted_none rfl) (val_pick_t rfl rfl) rfl rfl ?_ | refine tl_val (wanted_none rfl) (val_pick_f rfl rfl) rfl rfl ?_)
  refine tl_nil ?_
  repeat (first | refine tc_region ?_ | (refine tc_seq ?_; intro K hK) | refine tc_block ?_ | refine tc_exit ?_ | refine tc_ret ?_ | refine tc_skip ?_ | refine tc_cond_t rfl ?_ | refine tc_cond_f rfl ?_ | refine tk_then_n ?_ | refine tk_then_r ?_ | refine tk_then_e ?_ | refine tk_block_n ?_ | refine tk_block_r ?_ | refine tk_block_hit ?_ | refine tk_block_miss rfl ?_ | refine ‹∀ (e : Env) (As : List Atom), TC _ _ _ e As → TK _ _ e As› _ _ ?_)
  (try simp only [Bool.not_eq_true', Bool.not_eq_false', decide_eq_true_eq, decide_eq_false_iff_not] at hg4); (try simp only [Bool.not_eq_true', Bool.not_eq_false', decide_eq_true_eq, decide_eq_false_iff_not] at hg9); (try simp only [Bool.not_eq_true', Bool.not_eq_false', decide_eq_true_eq, decide_eq_false_iff_not] at hg14)
  refine tc_cond rfl (fun hc => ?_) (fun hc => ?_)
  · repeat (first | refine tc_region ?_ | (refine tc_seq ?_; intro K hK) | refine tc_block ?_ | refine tc_exit ?_ | refine tc_ret ?_ | refine tc_skip ?_ | refine tc_cond_t rfl ?_ | refine tc_cond_f rfl ?_ | refine tk_then_n ?_ | refine tk_then_r ?_ | refine tk_then_e ?_ | refine tk_block_n ?_ | refine tk_block_r ?_ | refine tk_block_hit ?_ | refine tk_block_miss rfl ?_ | refine ‹∀ (e : Env) (As : List Atom), TC _ _ _ e As → TK _ _ e As› _ _ ?_)
    refine tl_val (wanted_none rfl) (val_assign rfl) rfl rfl ?_
    refine tl_val (wanted_none rfl) (val_assign rfl) rfl rfl ?_
    refine tl_nil ?_
    repeat (first | refine tc_region ?_ | (refine tc_seq ?_; intro K hK) | refine tc_block ?_ | refine tc_exit ?_ | refine tc_ret ?_ | refine tc_skip ?_ | refine tc_cond_t rfl ?_ | refine tc_cond_f rfl ?_ | refine tk_then_n ?_ | refine tk_then_r ?_ | refine tk_then_e ?_ | refine tk_block_n ?_ | refine tk_block_r ?_ | refine tk_block_hit ?_ | refine tk_block_miss rfl ?_ | refine ‹∀ (e : Env) (As : List Atom), TC _ _ _ e As → TK _ _ e As› _ _ ?_)
    refine tk_ent (Ent.nilrow 56 6) ?_
    (first | apply tk_ret Try.results15 | apply tk_end Try.results15); (repeat (first | exact ResOK.nil | apply ResOK.tmp rfl | apply ResOK.agg rfl (by repeat (first | exact Has.here | refine Has.there ?_)) (by exact rfl) (by exact rfl) (by exact rfl) | apply ResOK.scalar rfl (by repeat (first | exact Has.here | refine Has.there ?_)) (by exact rfl) (by exact rfl))); intro w hw; refine ⟨_, [.row (.slice none 0 0) 56 6 []], rfl, ?_, hw.pick (by repeat (first | exact Pick.nil | exact Rem.here | apply Rem.there | apply Pick.take))⟩; try dsimp only [retV]
    simp at hc
    exact ⟨[], none, 0, by simp [doneF, doneS, *], nilH_nil, by simp [doneF, doneS, *], rfl⟩
  have hrep : replyB r.1 = true := by simpa using hc
  have hm : mayB (ss q) = true := hg4
  obtain ⟨hR, hh, h8⟩ := may_facts hm
  have hD : doneF (ss q) k seq r.1 idx = doneU (ss q) k seq r.1 idx := by
    rw [doneF, if_pos hm, doneS, if_pos (by simp [hg9, hg14, hrep])]
  repeat (first | refine tc_region ?_ | (refine tc_seq ?_; intro K hK) | refine tc_block ?_ | refine tc_exit ?_ | refine tc_ret ?_ | refine tc_skip ?_ | refine tc_cond_t rfl ?_ | refine tc_cond_f rfl ?_ | refine tk_then_n ?_ | refine tk_then_r ?_ | refine tk_then_e ?_ | refine tk_block_n ?_ | refine tk_block_r ?_ | refine tk_block_hit ?_ | refine tk_block_miss rfl ?_ | refine ‹∀ (e : Env) (As : List Atom), TC _ _ _ e As → TK _ _ e As› _ _ ?_)
  refine tl_val (wanted_none rfl) (val_move rfl) rfl rfl ?_
  refine tl_val (wanted_none rfl) (val_move rfl) rfl rfl ?_
  (refine tl_eff (wanted_none rfl) (eff_call_val rfl rfl ok31 (fun w hw => findP_m q A c k w (hl.keep hw) hR)) rfl rfl ?_; rintro _ _ ⟨⟨p, bb, rfl, hpos, hb⟩, rfl⟩)
  refine tl_val (wanted_none rfl) (val_move rfl) rfl rfl ?_
  refine tl_val (wanted_none rfl) (val_extract rfl (by exact rfl)) rfl rfl ?_
  refine tl_val (wanted_none rfl) (val_extract rfl (by exact rfl)) rfl rfl ?_
  refine tl_val (wanted_none rfl) (val_assign rfl) rfl rfl ?_
  refine tl_val (wanted_none rfl) (val_assign rfl) rfl rfl ?_
  refine tl_nil ?_
  repeat (first | refine tc_region ?_ | (refine tc_seq ?_; intro K hK) | refine tc_block ?_ | refine tc_exit ?_ | refine tc_ret ?_ | refine tc_skip ?_ | refine tc_cond_t rfl ?_ | refine tc_cond_f rfl ?_ | refine tk_then_n ?_ | refine tk_then_r ?_ | refine tk_then_e ?_ | refine tk_block_n ?_ | refine tk_block_r ?_ | refine tk_block_hit ?_ | refine tk_block_miss rfl ?_ | refine ‹∀ (e : Env) (As : List Atom), TC _ _ _ e As → TK _ _ e As› _ _ ?_)
  have hf := find_conn hR hpos hb
  repeat (first | refine tc_region ?_ | (refine tc_seq ?_; intro K hK) | refine tc_block ?_ | refine tc_exit ?_ | refine tc_ret ?_ | refine tc_skip ?_ | refine tc_cond_t rfl ?_ | refine tc_cond_f rfl ?_ | refine tk_then_n ?_ | refine tk_then_r ?_ | refine tk_then_e ?_ | refine tk_block_n ?_ | refine tk_block_r ?_ | refine tk_block_hit ?_ | refine tk_block_miss rfl ?_ | refine ‹∀ (e : Env) (As : List Atom), TC _ _ _ e As → TK _ _ e As› _ _ ?_)
  refine tl_val (wanted_none rfl) (val_move rfl) rfl rfl ?_
  refine tl_val (wanted_none rfl) (val_not rfl) rfl rfl ?_
  refine tl_nil ?_
  repeat (first | refine tc_region ?_ | (refine tc_seq ?_; intro K hK) | refine tc_block ?_ | refine tc_exit ?_ | refine tc_ret ?_ | refine tc_skip ?_ | refine tc_cond_t rfl ?_ | refine tc_cond_f rfl ?_ | refine tk_then_n ?_ | refine tk_then_r ?_ | refine tk_then_e ?_ | refine tk_block_n ?_ | refine tk_block_r ?_ | refine tk_block_hit ?_ | refine tk_block_miss rfl ?_ | refine ‹∀ (e : Env) (As : List Atom), TC _ _ _ e As → TK _ _ e As› _ _ ?_)
  refine tc_cond rfl (fun hc => ?_) (fun hc => ?_)
  · repeat (first | refine tc_region ?_ | (refine tc_seq ?_; intro K hK) | refine tc_block ?_ | refine tc_exit ?_ | refine tc_ret ?_ | refine tc_skip ?_ | refine tc_cond_t rfl ?_ | refine tc_cond_f rfl ?_ | refine tk_then_n ?_ | refine tk_then_r ?_ | refine tk_then_e ?_ | refine tk_block_n ?_ | refine tk_block_r ?_ | refine tk_block_hit ?_ | refine tk_block_miss rfl ?_ | refine ‹∀ (e : Env) (As : List Atom), TC _ _ _ e As → TK _ _ e As› _ _ ?_)
    refine tl_val (wanted_none rfl) (val_assign rfl) rfl rfl ?_
    refine tl_val (wanted_none rfl) (val_assign rfl) rfl rfl ?_
    refine tl_nil ?_
    repeat (first | refine tc_region ?_ | (refine tc_seq ?_; intro K hK) | refine tc_block ?_ | refine tc_exit ?_ | refine tc_ret ?_ | refine tc_skip ?_ | refine tc_cond_t rfl ?_ | refine tc_cond_f rfl ?_ | refine tk_then_n ?_ | refine tk_then_r ?_ | refine tk_then_e ?_ | refine tk_block_n ?_ | refine tk_block_r ?_ | refine tk_block_hit ?_ | refine tk_block_miss rfl ?_ | refine ‹∀ (e : Env) (As : List Atom), TC _ _ _ e As → TK _ _ e As› _ _ ?_)
    refine tk_ent (Ent.nilrow 56 6) ?_
    (first | apply tk_ret Try.results15 | apply tk_end Try.results15); (repeat (first | exact ResOK.nil | apply ResOK.tmp rfl | apply ResOK.agg rfl (by repeat (first | exact Has.here | refine Has.there ?_)) (by exact rfl) (by exact rfl) (by exact rfl) | apply ResOK.scalar rfl (by repeat (first | exact Has.here | refine Has.there ?_)) (by exact rfl) (by exact rfl))); intro w hw; refine ⟨_, [.row (.slice none 0 0) 56 6 []], rfl, ?_, hw.pick (by repeat (first | exact Pick.nil | exact Rem.here | apply Rem.there | apply Pick.take))⟩; try dsimp only [retV]
    have hbb : bb = false := by simpa using hc
    have hE : doneF (ss q) k seq r.1 idx = ([], 9) := by
      rw [hD, doneU, hf, hbb]
      simp
    exact ⟨[], none, 0, by rw [hE]; rfl, nilH_nil, by rw [hE]; rfl, rfl⟩
  have hbb : bb = true := by simpa using hc
  obtain ⟨x, hx, _⟩ := hb.1 hbb
  have hrl : p < q.length := (List.getElem?_eq_some_iff.1 hx).1
  have hxs : (ss q)[p]? = some x.1 := by simp [hx]
  have hE : doneF (ss q) k seq r.1 idx = ((ss q).set p (doneT x.1 r.1 seq idx), 0) := by
    rw [hD, doneU, hf, if_pos hbb, if_neg (by omega), Int.toNat_natCast, hxs]
  repeat (first | refine tc_region ?_ | (refine tc_seq ?_; intro K hK) | refine tc_block ?_ | refine tc_exit ?_ | refine tc_ret ?_ | refine tc_skip ?_ | refine tc_cond_t rfl ?_ | refine tc_cond_f rfl ?_ | refine tk_then_n ?_ | refine tk_then_r ?_ | refine tk_then_e ?_ | refine tk_block_n ?_ | refine tk_block_r ?_ | refine tk_block_hit ?_ | refine tk_block_miss rfl ?_ | refine ‹∀ (e : Env) (As : List Atom), TC _ _ _ e As → TK _ _ e As› _ _ ?_)
  refine tl_val (wanted_none rfl) (val_move rfl) rfl rfl ?_
  (refine tl_eff (wanted_none rfl) (eff_call_at rfl rfl ok35 Pick.nil (fun w hw => own_m q A c w (hl.keep hw) (by omega))) rfl rfl ?_; rintro _ _ ⟨_, ⟨A1, c1, rfl, rfl⟩, rfl⟩; simp only [List.cons_append, List.nil_append])
  refine tl_val (wanted_none rfl) (val_assign rfl) rfl rfl ?_
  refine tl_nil ?_
  repeat (first | refine tc_region ?_ | (refine tc_seq ?_; intro K hK) | refine tc_block ?_ | refine tc_exit ?_ | refine tc_ret ?_ | refine tc_skip ?_ | refine tc_cond_t rfl ?_ | refine tc_cond_f rfl ?_ | refine tk_then_n ?_ | refine tk_then_r ?_ | refine tk_then_e ?_ | refine tk_block_n ?_ | refine tk_block_r ?_ | refine tk_block_hit ?_ | refine tk_block_miss rfl ?_ | refine ‹∀ (e : Env) (As : List Atom), TC _ _ _ e As → TK _ _ e As› _ _ ?_)
  have hs1 := ss_clq hh
  have hq1 : (q.map clq).length = q.length := by simp
  repeat (first | refine tc_region ?_ | (refine tc_seq ?_; intro K hK) | refine tc_block ?_ | refine tc_exit ?_ | refine tc_ret ?_ | refine tc_skip ?_ | refine tc_cond_t rfl ?_ | refine tc_cond_f rfl ?_ | refine tk_then_n ?_ | refine tk_then_r ?_ | refine tk_then_e ?_ | refine tk_block_n ?_ | refine tk_block_r ?_ | refine tk_block_hit ?_ | refine tk_block_miss rfl ?_ | refine ‹∀ (e : Env) (As : List Atom), TC _ _ _ e As → TK _ _ e As› _ _ ?_)
  (first | refine tl_val (wanted_none rfl) (val_fieldAddr_blk rfl rfl rfl (by simp only [Nat.reduceAdd, Nat.zero_add, Nat.add_zero]; exact rfl)) rfl rfl ?_ | refine tl_val (wanted_none rfl) (val_fieldAddr_elt rfl rfl rfl (by simp only [Nat.reduceAdd, Nat.zero_add, Nat.add_zero]; exact rfl)) rfl rfl ?_ | refine tl_val (wanted_none rfl) (val_fieldAddr rfl rfl rfl) rfl rfl ?_)
  (first | (refine tl_eff_n (wanted_none rfl) (eff_store rfl rfl rfl (by exact rfl) (by exact rfl) (by repeat (first | exact Has.here | refine Has.there ?_)) (by exact rfl) (by simp only [Nat.reduceAdd, Nat.zero_add, Nat.add_zero, List.set_cons_zero, List.set_cons_succ, List.set_nil, List.drop_succ_cons, List.drop_zero, List.take_succ_cons, List.take_zero, List.take_nil, List.drop_nil, setL, ty29]; exact rfl) (by repeat (first | exact Rep.here | apply Rep.there))) rfl ?_; rintro _ _ rfl) | (refine tl_eff_n (wanted_none rfl) (eff_store_agg rfl rfl rfl (by exact rfl) (by exact rfl) (by repeat (first | exact Has.here | refine Has.there ?_)) (by exact rfl) (by simp only [Nat.reduceAdd, Nat.zero_add, Nat.add_zero, List.set_cons_zero, List.set_cons_succ, List.set_nil, List.drop_succ_cons, List.drop_zero, List.take_succ_cons, List.take_zero, List.take_nil, List.drop_nil, setL, ty29]; exact rfl) (by repeat (first | exact Rep.here | apply Rep.there))) rfl ?_; rintro _ _ rfl))
  refine tl_nil ?_
  repeat (first | refine tc_region ?_ | (refine tc_seq ?_; intro K hK) | refine tc_block ?_ | refine tc_exit ?_ | refine tc_ret ?_ | refine tc_skip ?_ | refine tc_cond_t rfl ?_ | refine tc_cond_f rfl ?_ | refine tk_then_n ?_ | refine tk_then_r ?_ | refine tk_then_e ?_ | refine tk_block_n ?_ | refine tk_block_r ?_ | refine tk_block_hit ?_ | refine tk_block_miss rfl ?_ | refine ‹∀ (e : Env) (As : List Atom), TC _ _ _ e As → TK _ _ e As› _ _ ?_)
  repeat (first | refine tc_region ?_ | (refine tc_seq ?_; intro K hK) | refine tc_block ?_ | refine tc_exit ?_ | refine tc_ret ?_ | refine tc_skip ?_ | refine tc_cond_t rfl ?_ | refine tc_cond_f rfl ?_ | refine tk_then_n ?_ | refine tk_then_r ?_ | refine tk_then_e ?_ | refine tk_block_n ?_ | refine tk_block_r ?_ | refine tk_block_hit ?_ | refine tk_block_miss rfl ?_ | refine ‹∀ (e : Env) (As : List Atom), TC _ _ _ e As → TK _ _ e As› _ _ ?_)
  refine tc_fact (p := ∃ g, A1 = some ⟨g, 0, none⟩) (fun w hw => by
    rcases row_addr (hw.pick (Bs := [.row (.slice A1 (q.map clq).length c1) 56 6 ((q.map clq).map enc)]) (by repeat (first | exact Pick.nil | exact Rem.here | apply Rem.there | apply Pick.take))) with ⟨_, h, _⟩ | h
    · omega
    · exact h) (fun hA => ?_)
  have hA' : ∃ b o, A1 = some ⟨b, o, none⟩ := by obtain ⟨g, h⟩ := hA; exact ⟨g, 0, h⟩
  have hxm : ((q.map clq).map enc)[(p : Int).toNat]? = some (enc (clq x)) := by rw [Int.toNat_natCast]; simp [hx]
  have hm1 : (p : Int).toNat < ((q.map clq).map enc).length := by simp; omega
  repeat (first | refine tc_region ?_ | (refine tc_seq ?_; intro K hK) | refine tc_block ?_ | refine tc_exit ?_ | refine tc_ret ?_ | refine tc_skip ?_ | refine tc_cond_t rfl ?_ | refine tc_cond_f rfl ?_ | refine tk_then_n ?_ | refine tk_then_r ?_ | refine tk_then_e ?_ | refine tk_block_n ?_ | refine tk_block_r ?_ | refine tk_block_hit ?_ | refine tk_block_miss rfl ?_ | refine ‹∀ (e : Env) (As : List Atom), TC _ _ _ e As → TK _ _ e As› _ _ ?_)
  refine tc_mix [] [0, 1, 2, 3, 4, 5, 6, 7, 8, 9, 10, 11, 12, 13, 14, 15, 16, 17] ([.blk b [.int .i64 r.1.err, .int .i64 r.1.n, .slice none 0 0] 31]) mixed (by kernel_rfl) (Ent.pick (by repeat (first | exact Pick.nil | exact Rem.here | apply Rem.there | apply Pick.take))) ?_
  refine tm_val rfl rfl (wanted_none rfl) (val_move rfl) rfl rfl ?_
  refine tm_val rfl rfl (wanted_none rfl) (val_move rfl) rfl rfl ?_
  refine tm_val rfl rfl (wanted_none rfl) (val_move rfl) rfl rfl ?_
  refine tm_val rfl rfl (wanted_none rfl) (val_move rfl) rfl rfl ?_
  refine tm_val rfl rfl (wanted_none rfl) (val_move rfl) rfl rfl ?_
  refine tm_val rfl rfl (wanted_none rfl) (val_move rfl) rfl rfl ?_
  refine tm_val rfl rfl (wanted_none rfl) (val_move rfl) rfl rfl ?_
  (first | refine tm_val rfl rfl (wanted_none rfl) (val_load rfl (by repeat (first | exact Has.here | refine Has.there ?_)) (by exact rfl) (by exact rfl) (by exact rfl)) rfl rfl ?_ | refine tm_val rfl rfl (wanted_none rfl) (val_load_agg rfl (by repeat (first | exact Has.here | refine Has.there ?_)) (by exact rfl) (by exact rfl) (by simp only [Nat.reduceAdd, Nat.zero_add, Nat.add_zero, List.set_cons_zero, List.set_cons_succ, List.set_nil, List.drop_succ_cons, List.drop_zero, List.take_succ_cons, List.take_zero, List.take_nil, List.drop_nil, setL, ty31]; exact rfl) (by exact rfl)) rfl rfl ?_)
  refine tm_val rfl rfl (wanted_none rfl) (val_move rfl) rfl rfl ?_
  refine tm_val rfl rfl (wanted_none rfl) (val_indexAddr rfl rfl rfl rfl rfl (by omega) (by omega) (fun _ _ => hA')) rfl rfl ?_
  (first | refine tm_val rfl rfl (wanted_none rfl) (val_fieldAddr_blk rfl rfl rfl (by simp only [Nat.reduceAdd, Nat.zero_add, Nat.add_zero]; exact rfl)) rfl rfl ?_ | refine tm_val rfl rfl (wanted_none rfl) (val_fieldAddr_elt rfl rfl rfl (by simp only [Nat.reduceAdd, Nat.zero_add, Nat.add_zero]; exact rfl)) rfl rfl ?_ | refine tm_val rfl rfl (wanted_none rfl) (val_fieldAddr rfl rfl rfl) rfl rfl ?_)
  (refine tm_eff_n rfl rfl (wanted_none rfl) (eff_store_elt rfl rfl rfl rfl rfl rfl (by repeat (first | exact Rem.here | apply Rem.there)) hxm rfl) rfl ?_; rintro _ _ rfl; refine ⟨(by first | exact fun h => absurd h (by decide) | exact fun _ => Ent.refl | exact fun _ => hent | exact fun _ => Ent.drop hent | exact fun _ => Ent.pick (by repeat (first | exact Pick.nil | exact Rem.here | apply Rem.there | apply Pick.take))), ?_⟩)
  refine tm_val rfl rfl (wanted_none rfl) (val_indexAddr rfl rfl rfl rfl rfl (by omega) (by omega) (fun _ _ => hA')) rfl rfl ?_
  (first | refine tm_val rfl rfl (wanted_none rfl) (val_fieldAddr_blk rfl rfl rfl (by simp only [Nat.reduceAdd, Nat.zero_add, Nat.add_zero]; exact rfl)) rfl rfl ?_ | refine tm_val rfl rfl (wanted_none rfl) (val_fieldAddr_elt rfl rfl rfl (by simp only [Nat.reduceAdd, Nat.zero_add, Nat.add_zero]; exact rfl)) rfl rfl ?_ | refine tm_val rfl rfl (wanted_none rfl) (val_fieldAddr rfl rfl rfl) rfl rfl ?_)
  (refine tm_eff_n rfl rfl (wanted_none rfl) (eff_store_elt rfl rfl rfl rfl rfl rfl (by repeat (first | exact Rem.here | apply Rem.there)) (set_get hm1) rfl) rfl ?_; rintro _ _ rfl; refine ⟨(by first | exact fun h => absurd h (by decide) | exact fun _ => Ent.refl | exact fun _ => hent | exact fun _ => Ent.drop hent | exact fun _ => Ent.pick (by repeat (first | exact Pick.nil | exact Rem.here | apply Rem.there | apply Pick.take))), ?_⟩)
  refine tm_val rfl rfl (wanted_none rfl) (val_indexAddr rfl rfl rfl rfl rfl (by omega) (by omega) (fun _ _ => hA')) rfl rfl ?_
  (first | refine tm_val rfl rfl (wanted_none rfl) (val_fieldAddr_blk rfl rfl rfl (by simp only [Nat.reduceAdd, Nat.zero_add, Nat.add_zero]; exact rfl)) rfl rfl ?_ | refine tm_val rfl rfl (wanted_none rfl) (val_fieldAddr_elt rfl rfl rfl (by simp only [Nat.reduceAdd, Nat.zero_add, Nat.add_zero]; exact rfl)) rfl rfl ?_ | refine tm_val rfl rfl (wanted_none rfl) (val_fieldAddr rfl rfl rfl) rfl rfl ?_)
  (refine tm_eff_n rfl rfl (wanted_none rfl) (eff_store_elt rfl rfl rfl rfl rfl rfl (by repeat (first | exact Rem.here | apply Rem.there)) (set_get (by simp; omega)) rfl) rfl ?_; rintro _ _ rfl; refine ⟨(by first | exact fun h => absurd h (by decide) | exact fun _ => Ent.refl | exact fun _ => hent | exact fun _ => Ent.drop hent | exact fun _ => Ent.pick (by repeat (first | exact Pick.nil | exact Rem.here | apply Rem.there | apply Pick.take))), ?_⟩)
  refine tm_nil ?_
  repeat (first | refine tc_region ?_ | (refine tc_seq ?_; intro K hK) | refine tc_block ?_ | refine tc_exit ?_ | refine tc_ret ?_ | refine tc_skip ?_ | refine tc_cond_t rfl ?_ | refine tc_cond_f rfl ?_ | refine tk_then_n ?_ | refine tk_then_r ?_ | refine tk_then_e ?_ | refine tk_block_n ?_ | refine tk_block_r ?_ | refine tk_block_hit ?_ | refine tk_block_miss rfl ?_ | refine ‹∀ (e : Env) (As : List Atom), TC _ _ _ e As → TK _ _ e As› _ _ ?_)
  repeat (first | refine tc_region ?_ | (refine tc_seq ?_; intro K hK) | refine tc_block ?_ | refine tc_exit ?_ | refine tc_ret ?_ | refine tc_skip ?_ | refine tc_cond_t rfl ?_ | refine tc_cond_f rfl ?_ | refine tk_then_n ?_ | refine tk_then_r ?_ | refine tk_then_e ?_ | refine tk_block_n ?_ | refine tk_block_r ?_ | refine tk_block_hit ?_ | refine tk_block_miss rfl ?_ | refine ‹∀ (e : Env) (As : List Atom), TC _ _ _ e As → TK _ _ e As› _ _ ?_)
  refine tl_val (wanted_none rfl) (val_move rfl) rfl rfl ?_
  refine tl_val (wanted_none rfl) (val_assign rfl) rfl rfl ?_
  refine tl_val (wanted_none rfl) (val_assign rfl) rfl rfl ?_
  refine tl_nil ?_
  repeat (first | refine tc_region ?_ | (refine tc_seq ?_; intro K hK) | refine tc_block ?_ | refine tc_exit ?_ | refine tc_ret ?_ | refine tc_skip ?_ | refine tc_cond_t rfl ?_ | refine tc_cond_f rfl ?_ | refine tk_then_n ?_ | refine tk_then_r ?_ | refine tk_then_e ?_ | refine tk_block_n ?_ | refine tk_block_r ?_ | refine tk_block_hit ?_ | refine tk_block_miss rfl ?_ | refine ‹∀ (e : Env) (As : List Atom), TC _ _ _ e As → TK _ _ e As› _ _ ?_)
  rw [List.set_set, List.set_set, Int.toNat_natCast]
  refine tk_ent (Bs := [.row (.slice A1 (q.map clq).length c1) 56 6 (((q.map clq).set p (doneT x.1 r.1 seq idx, none, 0)).map enc)]) (.mk fun w hw => by rw [List.map_set]; exact hw.pick (by repeat (first | exact Pick.nil | exact Rem.here | apply Rem.there | apply Pick.take))) ?_
  (first | apply tk_ret Try.results15 | apply tk_end Try.results15); (repeat (first | exact ResOK.nil | apply ResOK.tmp rfl | apply ResOK.agg rfl (by repeat (first | exact Has.here | refine Has.there ?_)) (by exact rfl) (by exact rfl) (by exact rfl) | apply ResOK.scalar rfl (by repeat (first | exact Has.here | refine Has.there ?_)) (by exact rfl) (by exact rfl))); intro w hw; refine ⟨_, _, rfl, ?_, hw⟩; try dsimp only [retV]
  refine ⟨(q.map clq).set p (doneT x.1 r.1 seq idx, none, 0), A1, c1, ?_, fun y hy => ?_, by rw [hE]; simp, by simp⟩
  rotate_left
  · rcases List.mem_or_eq_of_mem_set hy with h | h
    · exact nilH_clq q y h
    · rw [h]
  rw [hE, ss, List.map_set]
  show (ss (q.map clq)).set _ _ = _
  rw [hs1]
end Go.Proofs.Ytefljdelmeifhaa

/-
  The page's own answer: closed, noted, begun.
-/
import Derived.Test.YtefljdelmeifhaaSk
set_option linter.unusedVariables false
set_option linter.unusedSimpArgs false
set_option maxRecDepth 100000
namespace Go.Proofs.Ytefljdelmeifhaa
open Go.Eng
/-- Sessions and an error, handed back. -/
def ResS (r : List Sess × Int) (v : Value) (As : List Atom) : Prop := ∃ (q' : List SQ) (A' : Option Addr) (c' : Nat), ss q' = r.1 ∧ v = .tuple #[.slice A' q'.length c', .int .i64 r.2] ∧ As = [.row (.slice A' q'.length c') 56 6 (q'.map enc)]
def closeS (l : List Sess) (k : Int) : List Sess × Int := if findI k l 0 < 0 then ([], 9) else (l.eraseIdx (findI k l 0).toNat, 0)
theorem findI_range : ∀ (l : List Sess) (k i : Int), findI k l i = -1 ∨ (i ≤ findI k l i ∧ findI k l i < i + l.length)
  | [], k, i => .inl rfl
  | s :: r, k, i => by
    unfold findI
    split
    · right; simp; omega
    · rcases findI_range r k (i + 1) with h | h
      · exact .inl h
      · right; simp; omega
theorem closeR_m (q : List SQ) (A : Option Addr) (c : Nat) (k : Int) (w : World) (hl : Sl w (fpAll []) enc 6 q A c) (hh : bare q) (hb : q.length ≤ 1000) :
    Meets Try.prog 17 [.slice A q.length c, .int .i64 k] w (fpAll []) (ResS (closeS (ss q) k)) := by
  refine enter tysOK Try.func17 rfl Try.ntmps17 rfl (HeapOK.start w) ?_
  repeat (first | refine tc_region ?_ | (refine tc_seq ?_; intro K hK) | refine tc_block ?_ | refine tc_exit ?_ | refine tc_ret ?_ | refine tc_skip ?_ | refine tc_cond_t rfl ?_ | refine tc_cond_f rfl ?_ | refine tk_then_n ?_ | refine tk_then_r ?_ | refine tk_then_e ?_ | refine tk_block_n ?_ | refine tk_block_r ?_ | refine tk_block_hit ?_ | refine tk_block_miss rfl ?_ | refine ‹∀ (e : Env) (As : List Atom), TC _ _ _ e As → TK _ _ e As› _ _ ?_)
  refine tl_val (wanted_none rfl) (val_assign rfl) rfl rfl ?_
  refine tl_val (wanted_none rfl) (val_assign rfl) rfl rfl ?_
  refine tl_nil ?_
  repeat (first | refine tc_region ?_ | (refine tc_seq ?_; intro K hK) | refine tc_block ?_ | refine tc_exit ?_ | refine tc_ret ?_ | refine tc_skip ?_ | refine tc_cond_t rfl ?_ | refine tc_cond_f rfl ?_ | refine tk_then_n ?_ | refine tk_then_r ?_ | refine tk_then_e ?_ | refine tk_block_n ?_ | refine tk_block_r ?_ | refine tk_block_hit ?_ | refine tk_block_miss rfl ?_ | refine ‹∀ (e : Env) (As : List Atom), TC _ _ _ e As → TK _ _ e As› _ _ ?_)
  repeat (first | refine tc_region ?_ | (refine tc_seq ?_; intro K hK) | refine tc_block ?_ | refine tc_exit ?_ | refine tc_ret ?_ | refine tc_skip ?_ | refine tc_cond_t rfl ?_ | refine tc_cond_f rfl ?_ | refine tk_then_n ?_ | refine tk_then_r ?_ | refine tk_then_e ?_ | refine tk_block_n ?_ | refine tk_block_r ?_ | refine tk_block_hit ?_ | refine tk_block_miss rfl ?_ | refine ‹∀ (e : Env) (As : List Atom), TC _ _ _ e As → TK _ _ e As› _ _ ?_)
  refine tl_val (wanted_none rfl) (val_move rfl) rfl rfl ?_
  refine tl_val (wanted_none rfl) (val_move rfl) rfl rfl ?_
  (refine tl_eff (wanted_none rfl) (eff_call_pure rfl rfl ok29 (fun w hw => findR_m q A c k w (hl.keep hw))) rfl rfl ?_; rintro _ _ ⟨rfl, rfl⟩)
  refine tl_val (wanted_none rfl) (val_assign rfl) rfl rfl ?_
  refine tl_nil ?_
  repeat (first | refine tc_region ?_ | (refine tc_seq ?_; intro K hK) | refine tc_block ?_ | refine tc_exit ?_ | refine tc_ret ?_ | refine tc_skip ?_ | refine tc_cond_t rfl ?_ | refine tc_cond_f rfl ?_ | refine tk_then_n ?_ | refine tk_then_r ?_ | refine tk_then_e ?_ | refine tk_block_n ?_ | refine tk_block_r ?_ | refine tk_block_hit ?_ | refine tk_block_miss rfl ?_ | refine ‹∀ (e : Env) (As : List Atom), TC _ _ _ e As → TK _ _ e As› _ _ ?_)
  repeat (first | refine tc_region ?_ | (refine tc_seq ?_; intro K hK) | refine tc_block ?_ | refine tc_exit ?_ | refine tc_ret ?_ | refine tc_skip ?_ | refine tc_cond_t rfl ?_ | refine tc_cond_f rfl ?_ | refine tk_then_n ?_ | refine tk_then_r ?_ | refine tk_then_e ?_ | refine tk_block_n ?_ | refine tk_block_r ?_ | refine tk_block_hit ?_ | refine tk_block_miss rfl ?_ | refine ‹∀ (e : Env) (As : List Atom), TC _ _ _ e As → TK _ _ e As› _ _ ?_)
  refine tl_val (wanted_none rfl) (val_move rfl) rfl rfl ?_
  refine tl_val (wanted_none rfl) (val_lss rfl rfl) rfl rfl ?_
  refine tl_nil ?_
  repeat (first | refine tc_region ?_ | (refine tc_seq ?_; intro K hK) | refine tc_block ?_ | refine tc_exit ?_ | refine tc_ret ?_ | refine tc_skip ?_ | refine tc_cond_t rfl ?_ | refine tc_cond_f rfl ?_ | refine tk_then_n ?_ | refine tk_then_r ?_ | refine tk_then_e ?_ | refine tk_block_n ?_ | refine tk_block_r ?_ | refine tk_block_hit ?_ | refine tk_block_miss rfl ?_ | refine ‹∀ (e : Env) (As : List Atom), TC _ _ _ e As → TK _ _ e As› _ _ ?_)
  refine tc_cond rfl (fun hc => ?_) (fun hc => ?_)
  · repeat (first | refine tc_region ?_ | (refine tc_seq ?_; intro K hK) | refine tc_block ?_ | refine tc_exit ?_ | refine tc_ret ?_ | refine tc_skip ?_ | refine tc_cond_t rfl ?_ | refine tc_cond_f rfl ?_ | refine tk_then_n ?_ | refine tk_then_r ?_ | refine tk_then_e ?_ | refine tk_block_n ?_ | refine tk_block_r ?_ | refine tk_block_hit ?_ | refine tk_block_miss rfl ?_ | refine ‹∀ (e : Env) (As : List Atom), TC _ _ _ e As → TK _ _ e As› _ _ ?_)
    refine tl_val (wanted_none rfl) (val_assign rfl) rfl rfl ?_
    refine tl_val (wanted_none rfl) (val_assign rfl) rfl rfl ?_
    refine tl_nil ?_
    repeat (first | refine tc_region ?_ | (refine tc_seq ?_; intro K hK) | refine tc_block ?_ | refine tc_exit ?_ | refine tc_ret ?_ | refine tc_skip ?_ | refine tc_cond_t rfl ?_ | refine tc_cond_f rfl ?_ | refine tk_then_n ?_ | refine tk_then_r ?_ | refine tk_then_e ?_ | refine tk_block_n ?_ | refine tk_block_r ?_ | refine tk_block_hit ?_ | refine tk_block_miss rfl ?_ | refine ‹∀ (e : Env) (As : List Atom), TC _ _ _ e As → TK _ _ e As› _ _ ?_)
    refine tk_ent (Ent.nilrow 56 6) ?_
    (first | apply tk_ret Try.results17 | apply tk_end Try.results17); (repeat (first | exact ResOK.nil | apply ResOK.tmp rfl | apply ResOK.agg rfl (by repeat (first | exact Has.here | refine Has.there ?_)) (by exact rfl) (by exact rfl) (by exact rfl) | apply ResOK.scalar rfl (by repeat (first | exact Has.here | refine Has.there ?_)) (by exact rfl) (by exact rfl))); intro w hw; refine ⟨_, _, rfl, ?_, hw⟩; try dsimp only [retV]
    simp at hc
    exact ⟨[], none, 0, by rw [closeS, if_pos hc]; rfl, by rw [closeS, if_pos hc]; rfl, rfl⟩
  simp at hc
  have hr := findI_range (ss q) k 0
  simp only [List.length_map] at hr
  have hlt : findI k (ss q) 0 < q.length := by omega
  repeat (first | refine tc_region ?_ | (refine tc_seq ?_; intro K hK) | refine tc_block ?_ | refine tc_exit ?_ | refine tc_ret ?_ | refine tc_skip ?_ | refine tc_cond_t rfl ?_ | refine tc_cond_f rfl ?_ | refine tk_then_n ?_ | refine tk_then_r ?_ | refine tk_then_e ?_ | refine tk_block_n ?_ | refine tk_block_r ?_ | refine tk_block_hit ?_ | refine tk_block_miss rfl ?_ | refine ‹∀ (e : Env) (As : List Atom), TC _ _ _ e As → TK _ _ e As› _ _ ?_)
  refine tl_val (wanted_none rfl) (val_move rfl) rfl rfl ?_
  refine tl_val (wanted_none rfl) (val_move rfl) rfl rfl ?_
  (refine tl_eff (wanted_none rfl) (eff_call_at rfl rfl ok37 Pick.nil (fun w hw => drop_m q A _ c _ w rfl (hl.keep hw) hh (by omega) hc hlt)) rfl rfl ?_; rintro _ _ ⟨_, ⟨q2, A2, c2, hq2, rfl, rfl⟩, rfl⟩; simp only [List.cons_append, List.nil_append])
  refine tl_val (wanted_none rfl) (val_assign rfl) rfl rfl ?_
  refine tl_val (wanted_none rfl) (val_assign rfl) rfl rfl ?_
  refine tl_nil ?_
  repeat (first | refine tc_region ?_ | (refine tc_seq ?_; intro K hK) | refine tc_block ?_ | refine tc_exit ?_ | refine tc_ret ?_ | refine tc_skip ?_ | refine tc_cond_t rfl ?_ | refine tc_cond_f rfl ?_ | refine tk_then_n ?_ | refine tk_then_r ?_ | refine tk_then_e ?_ | refine tk_block_n ?_ | refine tk_block_r ?_ | refine tk_block_hit ?_ | refine tk_block_miss rfl ?_ | refine ‹∀ (e : Env) (As : List Atom), TC _ _ _ e As → TK _ _ e As› _ _ ?_)
  (first | apply tk_ret Try.results17 | apply tk_end Try.results17); (repeat (first | exact ResOK.nil | apply ResOK.tmp rfl | apply ResOK.agg rfl (by repeat (first | exact Has.here | refine Has.there ?_)) (by exact rfl) (by exact rfl) (by exact rfl) | apply ResOK.scalar rfl (by repeat (first | exact Has.here | refine Has.there ?_)) (by exact rfl) (by exact rfl))); intro w hw; refine ⟨_, _, rfl, ?_, hw⟩; try dsimp only [retV]
  exact ⟨q2, A2, c2, by rw [closeS, if_neg (by omega)]; exact hq2, by rw [closeS, if_neg (by omega)], rfl⟩
theorem mayOpen_m (q : List SQ) (A : Option Addr) (c : Nat) (k : Int) (w : World) (hl : Sl w (fpAll []) enc 6 q A c) : Meets Try.prog 19 [.slice A q.length c, .int .i64 k] w (fpAll []) (fun v _ => v = .bool (numB 1 k && decide (findI k (ss q) 0 < 0))) := by
  refine enter tysOK Try.func19 rfl Try.ntmps19 rfl (HeapOK.start w) ?_
  repeat (first | refine tc_region ?_ | (refine tc_seq ?_; intro K hK) | refine tc_block ?_ | refine tc_exit ?_ | refine tc_ret ?_ | refine tc_skip ?_ | refine tc_cond_t rfl ?_ | refine tc_cond_f rfl ?_ | refine tk_then_n ?_ | refine tk_then_r ?_ | refine tk_then_e ?_ | refine tk_block_n ?_ | refine tk_block_r ?_ | refine tk_block_hit ?_ | refine tk_block_miss rfl ?_ | refine ‹∀ (e : Env) (As : List Atom), TC _ _ _ e As → TK _ _ e As› _ _ ?_)
  refine tl_val (wanted_none rfl) (val_assign rfl) rfl rfl ?_
  refine tl_nil ?_
  repeat (first | refine tc_region ?_ | (refine tc_seq ?_; intro K hK) | refine tc_block ?_ | refine tc_exit ?_ | refine tc_ret ?_ | refine tc_skip ?_ | refine tc_cond_t rfl ?_ | refine tc_cond_f rfl ?_ | refine tk_then_n ?_ | refine tk_then_r ?_ | refine tk_then_e ?_ | refine tk_block_n ?_ | refine tk_block_r ?_ | refine tk_block_hit ?_ | refine tk_block_miss rfl ?_ | refine ‹∀ (e : Env) (As : List Atom), TC _ _ _ e As → TK _ _ e As› _ _ ?_)
  repeat (first | refine tc_region ?_ | (refine tc_seq ?_; intro K hK) | refine tc_block ?_ | refine tc_exit ?_ | refine tc_ret ?_ | refine tc_skip ?_ | refine tc_cond_t rfl ?_ | refine tc_cond_f rfl ?_ | refine tk_then_n ?_ | refine tk_then_r ?_ | refine tk_then_e ?_ | refine tk_block_n ?_ | refine tk_block_r ?_ | refine tk_block_hit ?_ | refine tk_block_miss rfl ?_ | refine ‹∀ (e : Env) (As : List Atom), TC _ _ _ e As → TK _ _ e As› _ _ ?_)
  refine tl_val (wanted_none rfl) (val_move rfl) rfl rfl ?_
  (refine tl_eff (wanted_none rfl) (eff_call_pure rfl rfl ok25 (fun w hw => id_m _ w)) rfl rfl ?_; rintro _ _ ⟨rfl, rfl⟩)
  refine tl_val (wanted_none rfl) (val_move rfl) rfl rfl ?_
  refine tl_case_g rfl rfl rfl (fun hg3 => ?_) (fun hg3 => ?_)
  rotate_left
  · (first | refine tl_val (wanted_some rfl rfl rfl) (val_move rfl) rfl rfl ?_ | refine tl_skip (by first | exact unwanted_t rfl rfl rfl | exact unwanted_f rfl rfl rfl | exact unwanted_u rfl rfl rfl) rfl rfl ?_)
    (first | refine tl_val (wanted_some rfl rfl rfl) (val_move rfl) rfl rfl ?_ | refine tl_skip (by first | exact unwanted_t rfl rfl rfl | exact unwanted_f rfl rfl rfl | exact unwanted_u rfl rfl rfl) rfl rfl ?_)
    (first | refine tl_skip (by first | exact unwanted_t rfl rfl rfl | exact unwanted_f rfl rfl rfl | exact unwanted_u rfl rfl rfl) rfl rfl ?_ | (refine tl_eff (wanted_some rfl rfl rfl) (eff_call_pure rfl rfl ok29 (fun w hw => findR_m q A c k w (hl.keep hw))) rfl rfl ?_; rintro _ _ ⟨rfl, rfl⟩))
    (first | refine tl_val (wanted_some rfl rfl rfl) (val_lss rfl rfl) rfl rfl ?_ | refine tl_skip (by first | exact unwanted_t rfl rfl rfl | exact unwanted_f rfl rfl rfl | exact unwanted_u rfl rfl rfl) rfl rfl ?_)
    (first | refine tl_val (wanted_none rfl) (val_pick_t rfl rfl) rfl rfl ?_ | refine tl_val (wanted_none rfl) (val_pick_f rfl rfl) rfl rfl ?_)
    refine tl_val (wanted_none rfl) (val_assign rfl) rfl rfl ?_
    refine tl_nil ?_
    repeat (first | refine tc_region ?_ | (refine tc_seq ?_; intro K hK) | refine tc_block ?_ | refine tc_exit ?_ | refine tc_ret ?_ | refine tc_skip ?_ | refine tc_cond_t rfl ?_ | refine tc_cond_f rfl ?_ | refine tk_then_n ?_ | refine tk_then_r ?_ | refine tk_then_e ?_ | refine tk_block_n ?_ | refine tk_block_r ?_ | refine tk_block_hit ?_ | refine tk_block_miss rfl ?_ | refine ‹∀ (e : Env) (As : List Atom), TC _ _ _ e As → TK _ _ e As› _ _ ?_)
    (first | apply tk_ret Try.results19 | apply tk_end Try.results19); (repeat (first | exact ResOK.nil | apply ResOK.tmp rfl | apply ResOK.agg rfl (by repeat (first | exact Has.here | refine Has.there ?_)) (by exact rfl) (by exact rfl) (by exact rfl) | apply ResOK.scalar rfl (by repeat (first | exact Has.here | refine Has.there ?_)) (by exact rfl) (by exact rfl))); intro w hw; refine ⟨_, _, rfl, ?_, hw⟩; try dsimp only [retV]
    simp [*]
  (first | refine tl_val (wanted_some rfl rfl rfl) (val_move rfl) rfl rfl ?_ | refine tl_skip (by first | exact unwanted_t rfl rfl rfl | exact unwanted_f rfl rfl rfl | exact unwanted_u rfl rfl rfl) rfl rfl ?_)
  (first | refine tl_val (wanted_some rfl rfl rfl) (val_move rfl) rfl rfl ?_ | refine tl_skip (by first | exact unwanted_t rfl rfl rfl | exact unwanted_f rfl rfl rfl | exact unwanted_u rfl rfl rfl) rfl rfl ?_)
  (first | refine tl_skip (by first | exact unwanted_t rfl rfl rfl | exact unwanted_f rfl rfl rfl | exact unwanted_u rfl rfl rfl) rfl rfl ?_ | (refine tl_eff (wanted_some rfl rfl rfl) (eff_call_pure rfl rfl ok29 (fun w hw => findR_m q A c k w (hl.keep hw))) rfl rfl ?_; rintro _ _ ⟨rfl, rfl⟩))
  (first | refine tl_val (wanted_some rfl rfl rfl) (val_lss rfl rfl) rfl rfl ?_ | refine tl_skip (by first | exact unwanted_t rfl rfl rfl | exact unwanted_f rfl rfl rfl | exact unwanted_u rfl rfl rfl) rfl rfl ?_)
  (first | refine tl_val (wanted_none rfl) (val_pick_t rfl rfl) rfl rfl ?_ | refine tl_val (wanted_none rfl) (val_pick_f rfl rfl) rfl rfl ?_)
  refine tl_val (wanted_none rfl) (val_assign rfl) rfl rfl ?_
  refine tl_nil ?_
  repeat (first | refine tc_region ?_ | (refine tc_seq ?_; intro K hK) | refine tc_block ?_ | refine tc_exit ?_ | refine tc_ret ?_ | refine tc_skip ?_ | refine tc_cond_t rfl ?_ | refine tc_cond_f rfl ?_ | refine tk_then_n ?_ | refine tk_then_r ?_ | refine tk_then_e ?_ | refine tk_block_n ?_ | refine tk_block_r ?_ | refine tk_block_hit ?_ | refine tk_block_miss rfl ?_ | refine ‹∀ (e : Env) (As : List Atom), TC _ _ _ e As → TK _ _ e As› _ _ ?_)
  (first | apply tk_ret Try.results19 | apply tk_end Try.results19); (repeat (first | exact ResOK.nil | apply ResOK.tmp rfl | apply ResOK.agg rfl (by repeat (first | exact Has.here | refine Has.there ?_)) (by exact rfl) (by exact rfl) (by exact rfl) | apply ResOK.scalar rfl (by repeat (first | exact Has.here | refine Has.there ?_)) (by exact rfl) (by exact rfl))); intro w hw; refine ⟨_, _, rfl, ?_, hw⟩; try dsimp only [retV]
  simp [*]
def doneT (s r : Sess) (seq idx : Int) : Sess := ⟨s.client, seq, r.err, r.n, [], idx⟩
def doneU (l : List Sess) (k seq : Int) (r : Sess) (idx : Int) : List Sess × Int :=
  if findI k l 0 < 0 then ([], 9) else (match l[(findI k l 0).toNat]? with | some s => l.set (findI k l 0).toNat (doneT s r seq idx) | none => [], 0)
def doneS (l : List Sess) (k seq : Int) (r : Sess) (idx : Int) : List Sess × Int :=
  if (numB 1 seq && (numB 1 idx && replyB r)) = true then doneU l k seq r idx else ([], 1)
theorem set_get {α : Type} {l : List α} {i : Nat} {x : α} (h : i < l.length) : (l.set i x)[i]? = some x := by simp [h]
theorem reply_bare {r : Sess} (h : replyB r = true) : r.hits = [] := by
  simp [replyB] at h
  exact h.2.2.2
theorem doneR_m (q : List SQ) (A : Option Addr) (c : Nat) (k seq : Int) (r : SQ) (idx : Int) (w : World) (hl : Sl w (fpAll []) enc 6 q A c) (hh : bare q) (hb : q.length ≤ 1000) :
    Meets Try.prog 14 [.slice A q.length c, .int .i64 k, .int .i64 seq, .agg (repl r).toArray, .int .i64 idx] w (fpAll []) (ResS (doneS (ss q) k seq r.1 idx)) := by
  have hmr := mayReply_m r
  have hcr := copyReply_m r
  simp only [repl] at hmr hcr ⊢
  refine enter tysOK Try.func14 rfl Try.ntmps14 rfl (HeapOK.start w) ?_
  repeat (first | refine tc_region ?_ | (refine tc_seq ?_; intro K hK) | refine tc_block ?_ | refine tc_exit ?_ | refine tc_ret ?_ | refine tc_skip ?_ | refine tc_cond_t rfl ?_ | refine tc_cond_f rfl ?_ | refine tk_then_n ?_ | refine tk_then_r ?_ | refine tk_then_e ?_ | refine tk_block_n ?_ | refine tk_block_r ?_ | refine tk_block_hit ?_ | refine tk_block_miss rfl ?_ | refine ‹∀ (e : Env) (As : List Atom), TC _ _ _ e As → TK _ _ e As› _ _ ?_)
  (refine tl_eff (wanted_none rfl) (eff_box rfl (by simp only [Value.cells, List.toList_toArray]; exact rfl)) rfl rfl ?_; rintro _ _ ⟨b, rfl, rfl⟩)
  refine tl_val (wanted_none rfl) (val_assign rfl) rfl rfl ?_
  refine tl_val (wanted_none rfl) (val_assign rfl) rfl rfl ?_
  refine tl_nil ?_
  repeat (first | refine tc_region ?_ | (refine tc_seq ?_; intro K hK) | refine tc_block ?_ | refine tc_exit ?_ | refine tc_ret ?_ | refine tc_skip ?_ | refine tc_cond_t rfl ?_ | refine tc_cond_f rfl ?_ | refine tk_then_n ?_ | refine tk_then_r ?_ | refine tk_then_e ?_ | refine tk_block_n ?_ | refine tk_block_r ?_ | refine tk_block_hit ?_ | refine tk_block_miss rfl ?_ | refine ‹∀ (e : Env) (As : List Atom), TC _ _ _ e As → TK _ _ e As› _ _ ?_)
  refine tl_val (wanted_none rfl) (val_move rfl) rfl rfl ?_
  (refine tl_eff (wanted_none rfl) (eff_call_pure rfl rfl ok25 (fun w hw => id_m _ w)) rfl rfl ?_; rintro _ _ ⟨rfl, rfl⟩)
  refine tl_val (wanted_none rfl) (val_not rfl) rfl rfl ?_
  refine tl_val (wanted_none rfl) (val_move rfl) rfl rfl ?_
  refine tl_case_g rfl rfl rfl (fun hg4 => ?_) (fun hg4 => ?_)
  · (first | refine tl_val (wanted_some rfl rfl rfl) (val_move rfl) rfl rfl ?_ | refine tl_skip (by first | exact unwanted_t rfl rfl rfl | exact unwanted_f rfl rfl rfl | exact unwanted_u rfl rfl rfl) rfl rfl ?_)
    (first | refine tl_skip (by first | exact unwanted_t rfl rfl rfl | exact unwanted_f rfl rfl rfl | exact unwanted_u rfl rfl rfl) rfl rfl ?_ | (refine tl_eff (wanted_some rfl rfl rfl) (eff_call_pure rfl rfl ok25 (fun w hw => id_m _ w)) rfl rfl ?_; rintro _ _ ⟨rfl, rfl⟩))
    (first | refine tl_val (wanted_some rfl rfl rfl) (val_not rfl) rfl rfl ?_ | refine tl_skip (by first | exact unwanted_t rfl rfl rfl | exact unwanted_f rfl rfl rfl | exact unwanted_u rfl rfl rfl) rfl rfl ?_)
    (first | refine tl_val (wanted_none rfl) (val_pick_t rfl rfl) rfl rfl ?_ | refine tl_val (wanted_none rfl) (val_pick_f rfl rfl) rfl rfl ?_)
    refine tl_val (wanted_none rfl) (val_move rfl) rfl rfl ?_
    (first | refine tl_val (wanted_some rfl rfl rfl) (val_load rfl (by repeat (first | exact Has.here | refine Has.there ?_)) (by exact rfl) (by exact rfl) (by exact rfl)) rfl rfl ?_ | refine tl_val (wanted_some rfl rfl rfl) (val_load_agg rfl (by repeat (first | exact Has.here | refine Has.there ?_)) (by exact rfl) (by exact rfl) (by simp only [Nat.reduceAdd, Nat.zero_add, Nat.add_zero, List.set_cons_zero, List.set_cons_succ, List.set_nil, List.drop_succ_cons, List.drop_zero, List.take_succ_cons, List.take_zero, List.take_nil, List.drop_nil, setL, ty31]; exact rfl) (by exact rfl)) rfl rfl ?_ | refine tl_skip (by first | exact unwanted_t rfl rfl rfl | exact unwanted_f rfl rfl rfl | exact unwanted_u rfl rfl rfl) rfl rfl ?_)
    (first | refine tl_skip (by first | exact unwanted_t rfl rfl rfl | exact unwanted_f rfl rfl rfl | exact unwanted_u rfl rfl rfl) rfl rfl ?_ | (refine tl_eff (wanted_some rfl rfl rfl) (eff_call_pure rfl rfl ok27 (fun w hw => hmr w)) rfl rfl ?_; rintro _ _ ⟨rfl, rfl⟩))
    (first | refine tl_val (wanted_some rfl rfl rfl) (val_not rfl) rfl rfl ?_ | refine tl_skip (by first | exact unwanted_t rfl rfl rfl | exact unwanted_f rfl rfl rfl | exact unwanted_u rfl rfl rfl) rfl rfl ?_)
    (first | refine tl_val (wanted_none rfl) (val_pick_t rfl rfl) rfl rfl ?_ | refine tl_val (wanted_none rfl) (val_pick_f rfl rfl) rfl rfl ?_)
    refine tl_nil ?_
    repeat (first | refine tc_region ?_ | (refine tc_seq ?_; intro K hK) | refine tc_block ?_ | refine tc_exit ?_ | refine tc_ret ?_ | refine tc_skip ?_ | refine tc_cond_t rfl ?_ | refine tc_cond_f rfl ?_ | refine tk_then_n ?_ | refine tk_then_r ?_ | refine tk_then_e ?_ | refine tk_block_n ?_ | refine tk_block_r ?_ | refine tk_block_hit ?_ | refine tk_block_miss rfl ?_ | refine ‹∀ (e : Env) (As : List Atom), TC _ _ _ e As → TK _ _ e As› _ _ ?_)
    repeat (first | refine tc_region ?_ | (refine tc_seq ?_; intro K hK) | refine tc_block ?_ | refine tc_exit ?_ | refine tc_ret ?_ | refine tc_skip ?_ | refine tc_cond_t rfl ?_ | refine tc_cond_f rfl ?_ | refine tk_then_n ?_ | refine tk_then_r ?_ | refine tk_then_e ?_ | refine tk_block_n ?_ | refine tk_block_r ?_ | refine tk_block_hit ?_ | refine tk_block_miss rfl ?_ | refine ‹∀ (e : Env) (As : List Atom), TC _ _ _ e As → TK _ _ e As› _ _ ?_)
    refine tl_val (wanted_none rfl) (val_assign rfl) rfl rfl ?_
    refine tl_val (wanted_none rfl) (val_assign rfl) rfl rfl ?_
    refine tl_nil ?_
    repeat (first | refine tc_region ?_ | (refine tc_seq ?_; intro K hK) | refine tc_block ?_ | refine tc_exit ?_ | refine tc_ret ?_ | refine tc_skip ?_ | refine tc_cond_t rfl ?_ | refine tc_cond_f rfl ?_ | refine tk_then_n ?_ | refine tk_then_r ?_ | refine tk_then_e ?_ | refine tk_block_n ?_ | refine tk_block_r ?_ | refine tk_block_hit ?_ | refine tk_block_miss rfl ?_ | refine ‹∀ (e : Env) (As : List Atom), TC _ _ _ e As → TK _ _ e As› _ _ ?_)
    refine tk_ent (Ent.nilrow 56 6) ?_
    (first | apply tk_ret Try.results14 | apply tk_end Try.results14); (repeat (first | exact ResOK.nil | apply ResOK.tmp rfl | apply ResOK.agg rfl (by repeat (first | exact Has.here | refine Has.there ?_)) (by exact rfl) (by exact rfl) (by exact rfl) | apply ResOK.scalar rfl (by repeat (first | exact Has.here | refine Has.there ?_)) (by exact rfl) (by exact rfl))); intro w hw; refine ⟨_, [.row (.slice none 0 0) 56 6 []], rfl, ?_, hw.pick (by repeat (first | exact Pick.nil | exact Rem.here | apply Rem.there | apply Pick.take))⟩; try dsimp only [retV]
    (try simp only [Bool.not_eq_true', Bool.not_eq_false', decide_eq_true_eq, decide_eq_false_iff_not] at hg4); (try simp only [Bool.not_eq_true', Bool.not_eq_false', decide_eq_true_eq, decide_eq_false_iff_not] at hg9)
    exact ⟨[], none, 0, by simp [doneS, *], by simp [doneS, *], rfl⟩
  (first | refine tl_val (wanted_some rfl rfl rfl) (val_move rfl) rfl rfl ?_ | refine tl_skip (by first | exact unwanted_t rfl rfl rfl | exact unwanted_f rfl rfl rfl | exact unwanted_u rfl rfl rfl) rfl rfl ?_)
  (first | refine tl_skip (by first | exact unwanted_t rfl rfl rfl | exact unwanted_f rfl rfl rfl | exact unwanted_u rfl rfl rfl) rfl rfl ?_ | (refine tl_eff (wanted_some rfl rfl rfl) (eff_call_pure rfl rfl ok25 (fun w hw => id_m _ w)) rfl rfl ?_; rintro _ _ ⟨rfl, rfl⟩))
  (first | refine tl_val (wanted_some rfl rfl rfl) (val_not rfl) rfl rfl ?_ | refine tl_skip (by first | exact unwanted_t rfl rfl rfl | exact unwanted_f rfl rfl rfl | exact unwanted_u rfl rfl rfl) rfl rfl ?_)
  (first | refine tl_val (wanted_none rfl) (val_pick_t rfl rfl) rfl rfl ?_ | refine tl_val (wanted_none rfl) (val_pick_f rfl rfl) rfl rfl ?_)
  refine tl_val (wanted_none rfl) (val_move rfl) rfl rfl ?_
  refine tl_case_g rfl rfl rfl (fun hg9 => ?_) (fun hg9 => ?_)
  · (first | refine tl_val (wanted_some rfl rfl rfl) (val_load rfl (by repeat (first | exact Has.here | refine Has.there ?_)) (by exact rfl) (by exact rfl) (by exact rfl)) rfl rfl ?_ | refine tl_val (wanted_some rfl rfl rfl) (val_load_agg rfl (by repeat (first | exact Has.here | refine Has.there ?_)) (by exact rfl) (by exact rfl) (by simp only [Nat.reduceAdd, Nat.zero_add, Nat.add_zero, List.set_cons_zero, List.set_cons_succ, List.set_nil, List.drop_succ_cons, List.drop_zero, List.take_succ_cons, List.take_zero, List.take_nil, List.drop_nil, setL, ty31]; exact rfl) (by exact rfl)) rfl rfl ?_ | refine tl_skip (by first | exact unwanted_t rfl rfl rfl | exact unwanted_f rfl rfl rfl | exact unwanted_u rfl rfl rfl) rfl rfl ?_)
    (first | refine tl_skip (by first | exact unwanted_t rfl rfl rfl | exact unwanted_f rfl rfl rfl | exact unwanted_u rfl rfl rfl) rfl rfl ?_ | (refine tl_eff (wanted_some rfl rfl rfl) (eff_call_pure rfl rfl ok27 (fun w hw => hmr w)) rfl rfl ?_; rintro _ _ ⟨rfl, rfl⟩))
    (first | refine tl_val (wanted_some rfl rfl rfl) (val_not rfl) rfl rfl ?_ | refine tl_skip (by first | exact unwanted_t rfl rfl rfl | exact unwanted_f rfl rfl rfl | exact unwanted_u rfl rfl rfl) rfl rfl ?_)
    (first | refine tl_val (wanted_none rfl) (val_pick_t rfl rfl) rfl rfl ?_ | refine tl_val (wanted_none rfl) (val_pick_f rfl rfl) rfl rfl ?_)
    refine tl_nil ?_
    repeat (first | refine tc_region ?_ | (refine tc_seq ?_; intro K hK) | refine tc_block ?_ | refine tc_exit ?_ | refine tc_ret ?_ | refine tc_skip ?_ | refine tc_cond_t rfl ?_ | refine tc_cond_f rfl ?_ | refine tk_then_n ?_ | refine tk_then_r ?_ | refine tk_then_e ?_ | refine tk_block_n ?_ | refine tk_block_r ?_ | refine tk_block_hit ?_ | refine tk_block_miss rfl ?_ | refine ‹∀ (e : Env) (As : List Atom), TC _ _ _ e As → TK _ _ e As› _ _ ?_)
    repeat (first | refine tc_region ?_ | (refine tc_seq ?_; intro K hK) | refine tc_block ?_ | refine tc_exit ?_ | refine tc_ret ?_ | refine tc_skip ?_ | refine tc_cond_t rfl ?_ | refine tc_cond_f rfl ?_ | refine tk_then_n ?_ | refine tk_then_r ?_ | refine tk_then_e ?_ | refine tk_block_n ?_ | refine tk_block_r ?_ | refine tk_block_hit ?_ | refine tk_block_miss rfl ?_ | refine ‹∀ (e : Env) (As : List Atom), TC _ _ _ e As → TK _ _ e As› _ _ ?_)
    refine tl_val (wanted_none rfl) (val_assign rfl) rfl rfl ?_
    refine tl_val (wanted_none rfl) (val_assign rfl) rfl rfl ?_
    refine tl_nil ?_
    repeat (first | refine tc_region ?_ | (refine tc_seq ?_; intro K hK) | refine tc_block ?_ | refine tc_exit ?_ | refine tc_ret ?_ | refine tc_skip ?_ | refine tc_cond_t rfl ?_ | refine tc_cond_f rfl ?_ | refine tk_then_n ?_ | refine tk_then_r ?_ | refine tk_then_e ?_ | refine tk_block_n ?_ | refine tk_block_r ?_ | refine tk_block_hit ?_ | refine tk_block_miss rfl ?_ | refine ‹∀ (e : Env) (As : List Atom), TC _ _ _ e As → TK _ _ e As› _ _ ?_)
    refine tk_ent (Ent.nilrow 56 6) ?_
    (first | apply tk_ret Try.results14 | apply tk_end Try.results14); (repeat (first | exact ResOK.nil | apply ResOK.tmp rfl | apply ResOK.agg rfl (by repeat (first | exact Has.here | refine Has.there ?_)) (by exact rfl) (by exact rfl) (by exact rfl) | apply ResOK.scalar rfl (by repeat (first | exact Has.here | refine Has.there ?_)) (by exact rfl) (by exact rfl))); intro w hw; refine ⟨_, [.row (.slice none 0 0) 56 6 []], rfl, ?_, hw.pick (by repeat (first | exact Pick.nil | exact Rem.here | apply Rem.there | apply Pick.take))⟩; try dsimp only [retV]
    (try simp only [Bool.not_eq_true', Bool.not_eq_false', decide_eq_true_eq, decide_eq_false_iff_not] at hg4); (try simp only [Bool.not_eq_true', Bool.not_eq_false', decide_eq_true_eq, decide_eq_false_iff_not] at hg9)
    exact ⟨[], none, 0, by simp [doneS, *], by simp [doneS, *], rfl⟩
  (first | refine tl_val (wanted_some rfl rfl rfl) (val_load rfl (by repeat (first | exact Has.here | refine Has.there ?_)) (by exact rfl) (by exact rfl) (by exact rfl)) rfl rfl ?_ | refine tl_val (wanted_some rfl rfl rfl) (val_load_agg rfl (by repeat (first | exact Has.here | refine Has.there ?_)) (by exact rfl) (by exact rfl) (by simp only [Nat.reduceAdd, Nat.zero_add, Nat.add_zero, List.set_cons_zero, List.set_cons_succ, List.set_nil, List.drop_succ_cons, List.drop_zero, List.take_succ_cons, List.take_zero, List.take_nil, List.drop_nil, setL, ty31]; exact rfl) (by exact rfl)) rfl rfl ?_ | refine tl_skip (by first | exact unwanted_t rfl rfl rfl | exact unwanted_f rfl rfl rfl | exact unwanted_u rfl rfl rfl) rfl rfl ?_)
  (first | refine tl_skip (by first | exact unwanted_t rfl rfl rfl | exact unwanted_f rfl rfl rfl | exact unwanted_u rfl rfl rfl) rfl rfl ?_ | (refine tl_eff (wanted_some rfl rfl rfl) (eff_call_pure rfl rfl ok27 (fun w hw => hmr w)) rfl rfl ?_; rintro _ _ ⟨rfl, rfl⟩))
  (first | refine tl_val (wanted_some rfl rfl rfl) (val_not rfl) rfl rfl ?_ | refine tl_skip (by first | exact unwanted_t rfl rfl rfl | exact unwanted_f rfl rfl rfl | exact unwanted_u rfl rfl rfl) rfl rfl ?_)
  (first | refine tl_val (wanted_none rfl) (val_pick_t rfl rfl) rfl rfl ?_ | refine tl_val (wanted_none rfl) (val_pick_f rfl rfl) rfl rfl ?_)
  refine tl_nil ?_
  repeat (first | refine tc_region ?_ | (refine tc_seq ?_; intro K hK) | refine tc_block ?_ | refine tc_exit ?_ | refine tc_ret ?_ | refine tc_skip ?_ | refine tc_cond_t rfl ?_ | refine tc_cond_f rfl ?_ | refine tk_then_n ?_ | refine tk_then_r ?_ | refine tk_then_e ?_ | refine tk_block_n ?_ | refine tk_block_r ?_ | refine tk_block_hit ?_ | refine tk_block_miss rfl ?_ | refine ‹∀ (e : Env) (As : List Atom), TC _ _ _ e As → TK _ _ e As› _ _ ?_)
  (try simp only [Bool.not_eq_true', Bool.not_eq_false', decide_eq_true_eq, decide_eq_false_iff_not] at hg4); (try simp only [Bool.not_eq_true', Bool.not_eq_false', decide_eq_true_eq, decide_eq_false_iff_not] at hg9)
  refine tc_cond rfl (fun hc => ?_) (fun hc => ?_)
  · repeat (first | refine tc_region ?_ | (refine tc_seq ?_; intro K hK) | refine tc_block ?_ | refine tc_exit ?_ | refine tc_ret ?_ | refine tc_skip ?_ | refine tc_cond_t rfl ?_ | refine tc_cond_f rfl ?_ | refine tk_then_n ?_ | refine tk_then_r ?_ | refine tk_then_e ?_ | refine tk_block_n ?_ | refine tk_block_r ?_ | refine tk_block_hit ?_ | refine tk_block_miss rfl ?_ | refine ‹∀ (e : Env) (As : List Atom), TC _ _ _ e As → TK _ _ e As› _ _ ?_)
    refine tl_val (wanted_none rfl) (val_assign rfl) rfl rfl ?_
    refine tl_val (wanted_none rfl) (val_assign rfl) rfl rfl ?_
    refine tl_nil ?_
    repeat (first | refine tc_region ?_ | (refine tc_seq ?_; intro K hK) | refine tc_block ?_ | refine tc_exit ?_ | refine tc_ret ?_ | refine tc_skip ?_ | refine tc_cond_t rfl ?_ | refine tc_cond_f rfl ?_ | refine tk_then_n ?_ | refine tk_then_r ?_ | refine tk_then_e ?_ | refine tk_block_n ?_ | refine tk_block_r ?_ | refine tk_block_hit ?_ | refine tk_block_miss rfl ?_ | refine ‹∀ (e : Env) (As : List Atom), TC _ _ _ e As → TK _ _ e As› _ _ ?_)
    refine tk_ent (Ent.nilrow 56 6) ?_
    (first | apply tk_ret Try.results14 | apply tk_end Try.results14); (repeat (first | exact ResOK.nil | apply ResOK.tmp rfl | apply ResOK.agg rfl (by repeat (first | exact Has.here | refine Has.there ?_)) (by exact rfl) (by exact rfl) (by exact rfl) | apply ResOK.scalar rfl (by repeat (first | exact Has.here | refine Has.there ?_)) (by exact rfl) (by exact rfl))); intro w hw; refine ⟨_, [.row (.slice none 0 0) 56 6 []], rfl, ?_, hw.pick (by repeat (first | exact Pick.nil | exact Rem.here | apply Rem.there | apply Pick.take))⟩; try dsimp only [retV]
    simp at hc
    exact ⟨[], none, 0, by simp [doneS, *], by simp [doneS, *], rfl⟩
  have hrep : replyB r.1 = true := by simpa using hc
  have hr0 := reply_bare hrep
  have hD : doneS (ss q) k seq r.1 idx = doneU (ss q) k seq r.1 idx := by
    rw [doneS, if_pos (by simp [hg4, hg9, hrep])]
  repeat (first | refine tc_region ?_ | (refine tc_seq ?_; intro K hK) | refine tc_block ?_ | refine tc_exit ?_ | refine tc_ret ?_ | refine tc_skip ?_ | refine tc_cond_t rfl ?_ | refine tc_cond_f rfl ?_ | refine tk_then_n ?_ | refine tk_then_r ?_ | refine tk_then_e ?_ | refine tk_block_n ?_ | refine tk_block_r ?_ | refine tk_block_hit ?_ | refine tk_block_miss rfl ?_ | refine ‹∀ (e : Env) (As : List Atom), TC _ _ _ e As → TK _ _ e As› _ _ ?_)
  refine tl_val (wanted_none rfl) (val_move rfl) rfl rfl ?_
  refine tl_val (wanted_none rfl) (val_move rfl) rfl rfl ?_
  (refine tl_eff (wanted_none rfl) (eff_call_pure rfl rfl ok29 (fun w hw => findR_m q A c k w (hl.keep hw))) rfl rfl ?_; rintro _ _ ⟨rfl, rfl⟩)
  refine tl_val (wanted_none rfl) (val_assign rfl) rfl rfl ?_
  refine tl_nil ?_
  repeat (first | refine tc_region ?_ | (refine tc_seq ?_; intro K hK) | refine tc_block ?_ | refine tc_exit ?_ | refine tc_ret ?_ | refine tc_skip ?_ | refine tc_cond_t rfl ?_ | refine tc_cond_f rfl ?_ | refine tk_then_n ?_ | refine tk_then_r ?_ | refine tk_then_e ?_ | refine tk_block_n ?_ | refine tk_block_r ?_ | refine tk_block_hit ?_ | refine tk_block_miss rfl ?_ | refine ‹∀ (e : Env) (As : List Atom), TC _ _ _ e As → TK _ _ e As› _ _ ?_)
  repeat (first | refine tc_region ?_ | (refine tc_seq ?_; intro K hK) | refine tc_block ?_ | refine tc_exit ?_ | refine tc_ret ?_ | refine tc_skip ?_ | refine tc_cond_t rfl ?_ | refine tc_cond_f rfl ?_ | refine tk_then_n ?_ | refine tk_then_r ?_ | refine tk_then_e ?_ | refine tk_block_n ?_ | refine tk_block_r ?_ | refine tk_block_hit ?_ | refine tk_block_miss rfl ?_ | refine ‹∀ (e : Env) (As : List Atom), TC _ _ _ e As → TK _ _ e As› _ _ ?_)
  refine tl_val (wanted_none rfl) (val_move rfl) rfl rfl ?_
  refine tl_val (wanted_none rfl) (val_lss rfl rfl) rfl rfl ?_
  refine tl_nil ?_
  repeat (first | refine tc_region ?_ | (refine tc_seq ?_; intro K hK) | refine tc_block ?_ | refine tc_exit ?_ | refine tc_ret ?_ | refine tc_skip ?_ | refine tc_cond_t rfl ?_ | refine tc_cond_f rfl ?_ | refine tk_then_n ?_ | refine tk_then_r ?_ | refine tk_then_e ?_ | refine tk_block_n ?_ | refine tk_block_r ?_ | refine tk_block_hit ?_ | refine tk_block_miss rfl ?_ | refine ‹∀ (e : Env) (As : List Atom), TC _ _ _ e As → TK _ _ e As› _ _ ?_)
  refine tc_cond rfl (fun hc => ?_) (fun hc => ?_)
  · repeat (first | refine tc_region ?_ | (refine tc_seq ?_; intro K hK) | refine tc_block ?_ | refine tc_exit ?_ | refine tc_ret ?_ | refine tc_skip ?_ | refine tc_cond_t rfl ?_ | refine tc_cond_f rfl ?_ | refine tk_then_n ?_ | refine tk_then_r ?_ | refine tk_then_e ?_ | refine tk_block_n ?_ | refine tk_block_r ?_ | refine tk_block_hit ?_ | refine tk_block_miss rfl ?_ | refine ‹∀ (e : Env) (As : List Atom), TC _ _ _ e As → TK _ _ e As› _ _ ?_)
    refine tl_val (wanted_none rfl) (val_assign rfl) rfl rfl ?_
    refine tl_val (wanted_none rfl) (val_assign rfl) rfl rfl ?_
    refine tl_nil ?_
    repeat (first | refine tc_region ?_ | (refine tc_seq ?_; intro K hK) | refine tc_block ?_ | refine tc_exit ?_ | refine tc_ret ?_ | refine tc_skip ?_ | refine tc_cond_t rfl ?_ | refine tc_cond_f rfl ?_ | refine tk_then_n ?_ | refine tk_then_r ?_ | refine tk_then_e ?_ | refine tk_block_n ?_ | refine tk_block_r ?_ | refine tk_block_hit ?_ | refine tk_block_miss rfl ?_ | refine ‹∀ (e : Env) (As : List Atom), TC _ _ _ e As → TK _ _ e As› _ _ ?_)
    refine tk_ent (Ent.nilrow 56 6) ?_
    (first | apply tk_ret Try.results14 | apply tk_end Try.results14); (repeat (first | exact ResOK.nil | apply ResOK.tmp rfl | apply ResOK.agg rfl (by repeat (first | exact Has.here | refine Has.there ?_)) (by exact rfl) (by exact rfl) (by exact rfl) | apply ResOK.scalar rfl (by repeat (first | exact Has.here | refine Has.there ?_)) (by exact rfl) (by exact rfl))); intro w hw; refine ⟨_, [.row (.slice none 0 0) 56 6 []], rfl, ?_, hw.pick (by repeat (first | exact Pick.nil | exact Rem.here | apply Rem.there | apply Pick.take))⟩; try dsimp only [retV]
    simp at hc
    exact ⟨[], none, 0, by rw [hD, doneU, if_pos hc]; rfl, by rw [hD, doneU, if_pos hc]; rfl, rfl⟩
  simp at hc
  have hfr := findI_range (ss q) k 0
  simp only [List.length_map] at hfr
  obtain ⟨i, hi⟩ : ∃ i, findI k (ss q) 0 = i := ⟨_, rfl⟩
  rw [hi] at hc hfr ⊢
  have hlt : i < q.length := by omega
  repeat (first | refine tc_region ?_ | (refine tc_seq ?_; intro K hK) | refine tc_block ?_ | refine tc_exit ?_ | refine tc_ret ?_ | refine tc_skip ?_ | refine tc_cond_t rfl ?_ | refine tc_cond_f rfl ?_ | refine tk_then_n ?_ | refine tk_then_r ?_ | refine tk_then_e ?_ | refine tk_block_n ?_ | refine tk_block_r ?_ | refine tk_block_hit ?_ | refine tk_block_miss rfl ?_ | refine ‹∀ (e : Env) (As : List Atom), TC _ _ _ e As → TK _ _ e As› _ _ ?_)
  refine tl_val (wanted_none rfl) (val_move rfl) rfl rfl ?_
  (refine tl_eff (wanted_none rfl) (eff_call_at rfl rfl ok5 Pick.nil (fun w hw => copySessions_e q A _ c w rfl (hl.keep hw) hh (by omega))) rfl rfl ?_; rintro _ _ ⟨_, ⟨q1, A1, c1, hq1, rfl, rfl⟩, rfl⟩; simp only [List.cons_append, List.nil_append])
  refine tl_val (wanted_none rfl) (val_assign rfl) rfl rfl ?_
  refine tl_nil ?_
  repeat (first | refine tc_region ?_ | (refine tc_seq ?_; intro K hK) | refine tc_block ?_ | refine tc_exit ?_ | refine tc_ret ?_ | refine tc_skip ?_ | refine tc_cond_t rfl ?_ | refine tc_cond_f rfl ?_ | refine tk_then_n ?_ | refine tk_then_r ?_ | refine tk_then_e ?_ | refine tk_block_n ?_ | refine tk_block_r ?_ | refine tk_block_hit ?_ | refine tk_block_miss rfl ?_ | refine ‹∀ (e : Env) (As : List Atom), TC _ _ _ e As → TK _ _ e As› _ _ ?_)
  have hl1 : q1.length = q.length := by simpa using congrArg List.length hq1
  obtain ⟨x, hx⟩ := get_some (l := q1) hc (by omega)
  have hxs : (ss q)[i.toNat]? = some x.1 := by rw [← hq1]; simp [hx]
  have hD2 : doneS (ss q) k seq r.1 idx = ((ss q).set i.toNat (doneT x.1 r.1 seq idx), 0) := by
    rw [hD, doneU, hi, if_neg (by omega), hxs]
  have hm1 : i.toNat < (q1.map enc).length := by simp; omega
  repeat (first | refine tc_region ?_ | (refine tc_seq ?_; intro K hK) | refine tc_block ?_ | refine tc_exit ?_ | refine tc_ret ?_ | refine tc_skip ?_ | refine tc_cond_t rfl ?_ | refine tc_cond_f rfl ?_ | refine tk_then_n ?_ | refine tk_then_r ?_ | refine tk_then_e ?_ | refine tk_block_n ?_ | refine tk_block_r ?_ | refine tk_block_hit ?_ | refine tk_block_miss rfl ?_ | refine ‹∀ (e : Env) (As : List Atom), TC _ _ _ e As → TK _ _ e As› _ _ ?_)
  refine tl_val (wanted_none rfl) (val_move rfl) rfl rfl ?_
  refine tl_val (wanted_none rfl) (val_move rfl) rfl rfl ?_
  refine tl_val (wanted_none rfl) (val_move rfl) rfl rfl ?_
  refine tl_val (wanted_none rfl) (val_move rfl) rfl rfl ?_
  refine tl_val (wanted_none rfl) (val_move rfl) rfl rfl ?_
  refine tl_val (wanted_none rfl) (val_move rfl) rfl rfl ?_
  refine tl_val (wanted_none rfl) (val_move rfl) rfl rfl ?_
  (first | refine tl_val (wanted_none rfl) (val_load rfl (by repeat (first | exact Has.here | refine Has.there ?_)) (by exact rfl) (by exact rfl) (by exact rfl)) rfl rfl ?_ | refine tl_val (wanted_none rfl) (val_load_agg rfl (by repeat (first | exact Has.here | refine Has.there ?_)) (by exact rfl) (by exact rfl) (by simp only [Nat.reduceAdd, Nat.zero_add, Nat.add_zero, List.set_cons_zero, List.set_cons_succ, List.set_nil, List.drop_succ_cons, List.drop_zero, List.take_succ_cons, List.take_zero, List.take_nil, List.drop_nil, setL, ty31]; exact rfl) (by exact rfl)) rfl rfl ?_)
  (refine tl_eff (wanted_none rfl) (eff_call_at rfl rfl ok16 Pick.nil (fun w hw => hcr w (bare_at (q := [r]) (fun y hy => by rw [List.mem_singleton.1 hy]; exact hr0) w _ r List.mem_cons_self) (by rw [hr0]; simp))) rfl rfl ?_; rintro _ _ ⟨_, ⟨A2, c2, rfl, rfl⟩, rfl⟩; simp only [List.cons_append, List.nil_append])
  refine tl_val (wanted_none rfl) (val_move rfl) rfl rfl ?_
  refine tl_val (wanted_none rfl) (val_indexAddr rfl rfl rfl rfl rfl hc (by omega) (fun w' hw => row_some hw (.there .here) (by simp; omega))) rfl rfl ?_
  (first | refine tl_val (wanted_none rfl) (val_fieldAddr_blk rfl rfl rfl (by simp only [Nat.reduceAdd, Nat.zero_add, Nat.add_zero]; exact rfl)) rfl rfl ?_ | refine tl_val (wanted_none rfl) (val_fieldAddr_elt rfl rfl rfl (by simp only [Nat.reduceAdd, Nat.zero_add, Nat.add_zero]; exact rfl)) rfl rfl ?_ | refine tl_val (wanted_none rfl) (val_fieldAddr rfl rfl rfl) rfl rfl ?_)
  (refine tl_eff_n (wanted_none rfl) (eff_store_elt rfl rfl rfl rfl rfl rfl (by repeat (first | exact Rem.here | apply Rem.there)) (getmap hx) rfl) rfl ?_; rintro _ _ rfl)
  refine tl_val (wanted_none rfl) (val_indexAddr rfl rfl rfl rfl rfl hc (by omega) (fun w' hw => row_some hw .here (by simp; omega))) rfl rfl ?_
  (first | refine tl_val (wanted_none rfl) (val_fieldAddr_blk rfl rfl rfl (by simp only [Nat.reduceAdd, Nat.zero_add, Nat.add_zero]; exact rfl)) rfl rfl ?_ | refine tl_val (wanted_none rfl) (val_fieldAddr_elt rfl rfl rfl (by simp only [Nat.reduceAdd, Nat.zero_add, Nat.add_zero]; exact rfl)) rfl rfl ?_ | refine tl_val (wanted_none rfl) (val_fieldAddr rfl rfl rfl) rfl rfl ?_)
  (refine tl_eff_n (wanted_none rfl) (eff_store_elt rfl rfl rfl rfl rfl rfl (by repeat (first | exact Rem.here | apply Rem.there)) (set_get hm1) rfl) rfl ?_; rintro _ _ rfl)
  refine tl_val (wanted_none rfl) (val_indexAddr rfl rfl rfl rfl rfl hc (by omega) (fun w' hw => row_some hw .here (by simp; omega))) rfl rfl ?_
  (first | refine tl_val (wanted_none rfl) (val_fieldAddr_blk rfl rfl rfl (by simp only [Nat.reduceAdd, Nat.zero_add, Nat.add_zero]; exact rfl)) rfl rfl ?_ | refine tl_val (wanted_none rfl) (val_fieldAddr_elt rfl rfl rfl (by simp only [Nat.reduceAdd, Nat.zero_add, Nat.add_zero]; exact rfl)) rfl rfl ?_ | refine tl_val (wanted_none rfl) (val_fieldAddr rfl rfl rfl) rfl rfl ?_)
  (refine tl_eff_n (wanted_none rfl) (eff_store_elt rfl rfl rfl rfl rfl rfl (by repeat (first | exact Rem.here | apply Rem.there)) (set_get (by simp; omega)) rfl) rfl ?_; rintro _ _ rfl)
  refine tl_nil ?_
  repeat (first | refine tc_region ?_ | (refine tc_seq ?_; intro K hK) | refine tc_block ?_ | refine tc_exit ?_ | refine tc_ret ?_ | refine tc_skip ?_ | refine tc_cond_t rfl ?_ | refine tc_cond_f rfl ?_ | refine tk_then_n ?_ | refine tk_then_r ?_ | refine tk_then_e ?_ | refine tk_block_n ?_ | refine tk_block_r ?_ | refine tk_block_hit ?_ | refine tk_block_miss rfl ?_ | refine ‹∀ (e : Env) (As : List Atom), TC _ _ _ e As → TK _ _ e As› _ _ ?_)
  repeat (first | refine tc_region ?_ | (refine tc_seq ?_; intro K hK) | refine tc_block ?_ | refine tc_exit ?_ | refine tc_ret ?_ | refine tc_skip ?_ | refine tc_cond_t rfl ?_ | refine tc_cond_f rfl ?_ | refine tk_then_n ?_ | refine tk_then_r ?_ | refine tk_then_e ?_ | refine tk_block_n ?_ | refine tk_block_r ?_ | refine tk_block_hit ?_ | refine tk_block_miss rfl ?_ | refine ‹∀ (e : Env) (As : List Atom), TC _ _ _ e As → TK _ _ e As› _ _ ?_)
  refine tl_val (wanted_none rfl) (val_move rfl) rfl rfl ?_
  refine tl_val (wanted_none rfl) (val_assign rfl) rfl rfl ?_
  refine tl_val (wanted_none rfl) (val_assign rfl) rfl rfl ?_
  refine tl_nil ?_
  repeat (first | refine tc_region ?_ | (refine tc_seq ?_; intro K hK) | refine tc_block ?_ | refine tc_exit ?_ | refine tc_ret ?_ | refine tc_skip ?_ | refine tc_cond_t rfl ?_ | refine tc_cond_f rfl ?_ | refine tk_then_n ?_ | refine tk_then_r ?_ | refine tk_then_e ?_ | refine tk_block_n ?_ | refine tk_block_r ?_ | refine tk_block_hit ?_ | refine tk_block_miss rfl ?_ | refine ‹∀ (e : Env) (As : List Atom), TC _ _ _ e As → TK _ _ e As› _ _ ?_)
  rw [List.set_set, List.set_set]
  refine tk_ent (Bs := [.row (.slice A1 q1.length c1) 56 6 ((q1.set i.toNat (⟨x.1.client, seq, r.1.err, r.1.n, r.1.hits, idx⟩, A2, c2)).map enc)]) (.mk fun w hw => by rw [List.map_set]; exact hw.pick (by repeat (first | exact Pick.nil | exact Rem.here | apply Rem.there | apply Pick.take))) ?_
  (first | apply tk_ret Try.results14 | apply tk_end Try.results14); (repeat (first | exact ResOK.nil | apply ResOK.tmp rfl | apply ResOK.agg rfl (by repeat (first | exact Has.here | refine Has.there ?_)) (by exact rfl) (by exact rfl) (by exact rfl) | apply ResOK.scalar rfl (by repeat (first | exact Has.here | refine Has.there ?_)) (by exact rfl) (by exact rfl))); intro w hw; refine ⟨_, _, rfl, ?_, hw⟩; try dsimp only [retV]
  refine ⟨q1.set i.toNat (⟨x.1.client, seq, r.1.err, r.1.n, r.1.hits, idx⟩, A2, c2), A1, c1, ?_, by rw [hD2]; simp, by simp⟩
  rw [hD2, ss, List.map_set]
  show (ss q1).set _ _ = _
  rw [hq1, hr0]
  rfl
end Go.Proofs.Ytefljdelmeifhaa

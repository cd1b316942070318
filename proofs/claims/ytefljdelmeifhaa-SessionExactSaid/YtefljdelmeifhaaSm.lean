/-
  What may be, rises; what stands where; begun; closed.
-/
import Derived.Test.YtefljdelmeifhaaSl
set_option linter.unusedVariables false
set_option linter.unusedSimpArgs false
set_option maxRecDepth 100000
namespace Go.Proofs.Ytefljdelmeifhaa
open Go.Eng
theorem mayFrom_facts : ∀ (l : List Sess) (p : Int), mayFrom p l = true → (∀ (i : Nat) (x : Sess), l[i]? = some x → p < x.client ∧ x.hits = []) ∧ Rises l
  | [], p, _ => ⟨fun i x h => by simp at h, fun i j x y _ h => by simp at h⟩
  | s :: r, p, h => by
    simp only [mayFrom, Bool.and_eq_true, decide_eq_true_eq] at h
    obtain ⟨h1, h2, h3⟩ := h
    obtain ⟨ih1, ih2⟩ := mayFrom_facts r s.client h3
    have hs : s.hits = [] := by
      simp only [sessB, Bool.and_eq_true] at h1
      exact reply_bare h1.2.2.2
    refine ⟨fun i x hx => ?_, fun i j x y hij hx hy => ?_⟩
    · cases i with
      | zero => simp at hx; subst hx; exact ⟨h2, hs⟩
      | succ i => obtain ⟨a, b⟩ := ih1 i x (by simpa using hx); exact ⟨Int.lt_trans h2 a, b⟩
    · cases j with
      | zero => omega
      | succ j =>
        cases i with
        | zero => simp at hx; subst hx; exact (ih1 j y (by simpa using hy)).1
        | succ i => exact ih2 i j x y (by omega) (by simpa using hx) (by simpa using hy)
theorem may_facts {q : List SQ} (h : mayB (ss q) = true) : Rises (ss q) ∧ bare q ∧ q.length ≤ 8 := by
  simp only [mayB, Bool.and_eq_true, decide_eq_true_eq] at h
  obtain ⟨h1, h2⟩ := mayFrom_facts _ _ h.2
  refine ⟨h2, fun x hx => ?_, by have := h.1; simp at this; omega⟩
  obtain ⟨i, hi, rfl⟩ := List.mem_iff_getElem.1 hx
  exact (h1 i q[i].1 (by simp [hi])).2
theorem findI_some : ∀ (l : List Sess) (k i : Int) (r : Nat) (x : Sess), (∀ (j : Nat) (y : Sess), j < r → l[j]? = some y → y.client ≠ k) → l[r]? = some x → x.client = k → findI k l i = i + r
  | [], k, i, r, x, _, h, _ => by simp at h
  | s :: l, k, i, 0, x, _, h, hk => by
    simp at h
    subst h
    simp [findI, hk]
  | s :: l, k, i, r + 1, x, h1, h, hk => by
    have h2 := h1 0 s (by omega) rfl
    rw [findI, if_neg h2, findI_some l k (i + 1) r x (fun j y hj hy => h1 (j + 1) y (by omega) (by simpa using hy)) (by simpa using h) hk]
    omega
theorem findI_none : ∀ (l : List Sess) (k i : Int), (∀ (j : Nat) (y : Sess), l[j]? = some y → y.client ≠ k) → findI k l i = -1
  | [], k, i, _ => rfl
  | s :: l, k, i, h => by
    rw [findI, if_neg (h 0 s rfl), findI_none l k (i + 1) fun j y hy => h (j + 1) y (by simpa using hy)]
theorem find_conn {q : List SQ} {k : Int} {r : Nat} {b : Bool} (hR : Rises (ss q)) (hp : Pos (ss q) k r) (hb : b = true ↔ ∃ x, q[r]? = some x ∧ x.1.client = k) : findI k (ss q) 0 = if b = true then (r : Int) else -1 := by
  split
  · rename_i h
    obtain ⟨x, hx, hk⟩ := hb.1 h
    rw [findI_some (ss q) k 0 r x.1 (fun j y hj hy => Int.ne_of_lt (hp.lo j y hj hy)) (by simp [hx]) hk]
    omega
  · rename_i h
    refine findI_none _ _ _ fun j y hy he => ?_
    by_cases hj : j < r
    · exact absurd he (Int.ne_of_lt (hp.lo j y hj hy))
    · by_cases hjr : j = r
      · subst hjr
        obtain ⟨z, hz, rfl⟩ : ∃ z, q[j]? = some z ∧ z.1 = y := by simpa using hy
        exact h (hb.2 ⟨z, hz, he⟩)
      · have hlt : r < (ss q).length := by have := (List.getElem?_eq_some_iff.1 hy).1; omega
        have h1 := hR r j (ss q)[r] y (by omega) (List.getElem?_eq_getElem hlt) hy
        have h2 := hp.hi r _ (Nat.le_refl _) (List.getElem?_eq_getElem hlt)
        omega
theorem ss_clq {q : List SQ} (h : bare q) : ss (q.map clq) = ss q := by
  simp only [ss, List.map_map]
  refine List.map_congr_left fun x hx => ?_
  have := h x hx
  obtain ⟨⟨a, b, c, d, e, f⟩, g⟩ := x
  simp only at this
  subst this
  rfl
/-- No hits, and no block for them. -/
def nilH (q : List SQ) : Prop := ∀ y ∈ q, y.2 = (none, 0)
theorem nilH_clq (q : List SQ) : nilH (q.map clq) := fun y hy => by
  obtain ⟨x, _, rfl⟩ := List.mem_map.1 hy
  rfl
theorem nilH_nil : nilH [] := fun y hy => by cases hy
def ResP (r : List Sess × Int) (v : Value) (As : List Atom) : Prop := ∃ (q' : List SQ) (A' : Option Addr) (c' : Nat), ss q' = r.1 ∧ nilH q' ∧ v = .tuple #[.slice A' q'.length c', .int .i64 r.2] ∧ As = [.row (.slice A' q'.length c') 56 6 (q'.map enc)]
def closeF (l : List Sess) (k : Int) : List Sess × Int := if mayB l = true then closeS l k else ([], 1)
theorem closeP_m (q : List SQ) (A : Option Addr) (c : Nat) (k : Int) (w : World) (hl : Sl w (fpAll []) enc 6 q A c) :
    Meets Try.prog 18 [.slice A q.length c, .int .i64 k] w (fpAll []) (ResP (closeF (ss q) k)) := by
  refine enter tysOK Try.func18 rfl Try.ntmps18 rfl (HeapOK.start w) ?_
  repeat (first | refine tc_region ?_ | (refine tc_seq ?_; intro K hK) | refine tc_block ?_ | refine tc_exit ?_ | refine tc_ret ?_ | refine tc_skip ?_ | refine tc_cond_t rfl ?_ | refine tc_cond_f rfl ?_ | refine tk_then_n ?_ | refine tk_then_r ?_ | refine tk_then_e ?_ | refine tk_block_n ?_ | refine tk_block_r ?_ | refine tk_block_hit ?_ | refine tk_block_miss rfl ?_ | refine ‹∀ (e : Env) (As : List Atom), TC _ _ _ e As → TK _ _ e As› _ _ ?_)
  refine tl_val (wanted_none rfl) (val_assign rfl) rfl rfl ?_
  refine tl_val (wanted_none rfl) (val_assign rfl) rfl rfl ?_
  refine tl_nil ?_
  repeat (first | refine tc_region ?_ | (refine tc_seq ?_; intro K hK) | refine tc_block ?_ | refine tc_exit ?_ | refine tc_ret ?_ | refine tc_skip ?_ | refine tc_cond_t rfl ?_ | refine tc_cond_f rfl ?_ | refine tk_then_n ?_ | refine tk_then_r ?_ | refine tk_then_e ?_ | refine tk_block_n ?_ | refine tk_block_r ?_ | refine tk_block_hit ?_ | refine tk_block_miss rfl ?_ | refine ‹∀ (e : Env) (As : List Atom), TC _ _ _ e As → TK _ _ e As› _ _ ?_)
  repeat (first | refine tc_region ?_ | (refine tc_seq ?_; intro K hK) | refine tc_block ?_ | refine tc_exit ?_ | refine tc_ret ?_ | refine tc_skip ?_ | refine tc_cond_t rfl ?_ | refine tc_cond_f rfl ?_ | refine tk_then_n ?_ | refine tk_then_r ?_ | refine tk_then_e ?_ | refine tk_block_n ?_ | refine tk_block_r ?_ | refine tk_block_hit ?_ | refine tk_block_miss rfl ?_ | refine ‹∀ (e : Env) (As : List Atom), TC _ _ _ e As → TK _ _ e As› _ _ ?_)
  refine tl_val (wanted_none rfl) (val_move rfl) rfl rfl ?_
  (refine tl_eff (wanted_none rfl) (eff_call_pure rfl rfl ok28 (fun w hw => mayP_m q A c w (hl.keep hw))) rfl rfl ?_; rintro _ _ ⟨rfl, rfl⟩)
  refine tl_val (wanted_none rfl) (val_not rfl) rfl rfl ?_
  refine tl_nil ?_
  repeat (first | refine tc_region ?_ | (refine tc_seq ?_; intro K hK) | refine tc_block ?_ | refine tc_exit ?_ | refine tc_ret ?_ | refine tc_skip ?_ | refine tc_cond_t rfl ?_ | refine tc_cond_f rfl ?_ | refine tk_then_n ?_ | refine tk_then_r ?_ | refine tk_then_e ?_ | refine tk_block_n ?_ | refine tk_block_r ?_ | refine tk_block_hit ?_ | refine tk_block_miss rfl ?_ | refine ‹∀ (e : Env) (As : List Atom), TC _ _ _ e As → TK _ _ e As› _ _ ?_)
  refine tc_cond rfl (fun hc => ?_) (fun hc => ?_)
  · repeat (first | refine tc_region ?_ | (refine tc_seq ?_; intro K hK) | refine tc_block ?_ | refine tc_exit ?_ | refine tc_ret ?_ | refine tc_skip ?_ | refine tc_cond_t rfl ?_ | refine tc_cond_f rfl ?_ | refine tk_then_n ?_ | refine tk_then_r ?_ | refine tk_then_e ?_ | refine tk_block_n ?_ | refine tk_block_r ?_ | refine tk_block_hit ?_ | refine tk_block_miss rfl ?_ | refine ‹∀ (e : Env) (As : List Atom), TC _ _ _ e As → TK _ _ e As› _ _ ?_)
    refine tl_val (wanted_none rfl) (val_assign rfl) rfl rfl ?_
    refine tl_val (wanted_none rfl) (val_assign rfl) rfl rfl ?_
    refine tl_nil ?_
    repeat (first | refine tc_region ?_ | (refine tc_seq ?_; intro K hK) | refine tc_block ?_ | refine tc_exit ?_ | refine tc_ret ?_ | refine tc_skip ?_ | refine tc_cond_t rfl ?_ | refine tc_cond_f rfl ?_ | refine tk_then_n ?_ | refine tk_then_r ?_ | refine tk_then_e ?_ | refine tk_block_n ?_ | refine tk_block_r ?_ | refine tk_block_hit ?_ | refine tk_block_miss rfl ?_ | refine ‹∀ (e : Env) (As : List Atom), TC _ _ _ e As → TK _ _ e As› _ _ ?_)
    refine tk_ent (Ent.nilrow 56 6) ?_
    (first | apply tk_ret Try.results18 | apply tk_end Try.results18); (repeat (first | exact ResOK.nil | apply ResOK.tmp rfl | apply ResOK.agg rfl (by repeat (first | exact Has.here | refine Has.there ?_)) (by exact rfl) (by exact rfl) (by exact rfl) | apply ResOK.scalar rfl (by repeat (first | exact Has.here | refine Has.there ?_)) (by exact rfl) (by exact rfl))); intro w hw; refine ⟨_, _, rfl, ?_, hw⟩; try dsimp only [retV]
    simp at hc
    exact ⟨[], none, 0, by simp [closeF, hc], nilH_nil, by simp [closeF, hc], rfl⟩
  have hm : mayB (ss q) = true := by simpa using hc
  obtain ⟨hR, hh, h8⟩ := may_facts hm
  repeat (first | refine tc_region ?_ | (refine tc_seq ?_; intro K hK) | refine tc_block ?_ | refine tc_exit ?_ | refine tc_ret ?_ | refine tc_skip ?_ | refine tc_cond_t rfl ?_ | refine tc_cond_f rfl ?_ | refine tk_then_n ?_ | refine tk_then_r ?_ | refine tk_then_e ?_ | refine tk_block_n ?_ | refine tk_block_r ?_ | refine tk_block_hit ?_ | refine tk_block_miss rfl ?_ | refine ‹∀ (e : Env) (As : List Atom), TC _ _ _ e As → TK _ _ e As› _ _ ?_)
  refine tl_val (wanted_none rfl) (val_move rfl) rfl rfl ?_
  refine tl_val (wanted_none rfl) (val_move rfl) rfl rfl ?_
  (refine tl_eff (wanted_none rfl) (eff_call_val rfl rfl ok31 (fun w hw => findP_m q A c k w (hl.keep hw) hR)) rfl rfl ?_; rintro _ _ ⟨⟨r, bb, rfl, hpos, hb⟩, rfl⟩)
  refine tl_val (wanted_none rfl) (val_move rfl) rfl rfl ?_
  refine tl_val (wanted_none rfl) (val_extract rfl (by exact rfl)) rfl rfl ?_
  refine tl_val (wanted_none rfl) (val_extract rfl (by exact rfl)) rfl rfl ?_
  refine tl_val (wanted_none rfl) (val_assign rfl) rfl rfl ?_
  refine tl_val (wanted_none rfl) (val_assign rfl) rfl rfl ?_
  refine tl_nil ?_
  repeat (first | refine tc_region ?_ | (refine tc_seq ?_; intro K hK) | refine tc_block ?_ | refine tc_exit ?_ | refine tc_ret ?_ | refine tc_skip ?_ | refine tc_cond_t rfl ?_ | refine tc_cond_f rfl ?_ | refine tk_then_n ?_ | refine tk_then_r ?_ | refine tk_then_e ?_ | refine tk_block_n ?_ | refine tk_block_r ?_ | refine tk_block_hit ?_ | refine tk_block_miss rfl ?_ | refine ‹∀ (e : Env) (As : List Atom), TC _ _ _ e As → TK _ _ e As› _ _ ?_)
  have hf := find_conn hR hpos hb
  repeat (first | refine tc_region ?_ | (refine tc_seq ?_; intro K hK) | refine tc_block ?_ | refine tc_exit ?_ | refine tc_ret ?_ | refine tc_skip ?_ | refine tc_cond_t rfl ?_ | refine tc_cond_f rfl ?_ | refine tk_then_n ?_ | refine tk_then_r ?_ | refine tk_then_e ?_ | refine tk_block_n ?_ | refine tk_block_r ?_ | refine tk_block_hit ?_ | refine tk_block_miss rfl ?_ | refine ‹∀ (e : Env) (As : List Atom), TC _ _ _ e As → TK _ _ e As› _ _ ?_)
  refine tl_val (wanted_none rfl) (val_move rfl) rfl rfl ?_
  refine tl_val (wanted_none rfl) (val_not rfl) rfl rfl ?_
  refine tl_nil ?_
  repeat (first | refine tc_region ?_ | (refine tc_seq ?_; intro K hK) | refine tc_block ?_ | refine tc_exit ?_ | refine tc_ret ?_ | refine tc_skip ?_ | refine tc_cond_t rfl ?_ | refine tc_cond_f rfl ?_ | refine tk_then_n ?_ | refine tk_then_r ?_ | refine tk_then_e ?_ | refine tk_block_n ?_ | refine tk_block_r ?_ | refine tk_block_hit ?_ | refine tk_block_miss rfl ?_ | refine ‹∀ (e : Env) (As : List Atom), TC _ _ _ e As → TK _ _ e As› _ _ ?_)
  refine tc_cond rfl (fun hc => ?_) (fun hc => ?_)
  · repeat (first | refine tc_region ?_ | (refine tc_seq ?_; intro K hK) | refine tc_block ?_ | refine tc_exit ?_ | refine tc_ret ?_ | refine tc_skip ?_ | refine tc_cond_t rfl ?_ | refine tc_cond_f rfl ?_ | refine tk_then_n ?_ | refine tk_then_r ?_ | refine tk_then_e ?_ | refine tk_block_n ?_ | refine tk_block_r ?_ | refine tk_block_hit ?_ | refine tk_block_miss rfl ?_ | refine ‹∀ (e : Env) (As : List Atom), TC _ _ _ e As → TK _ _ e As› _ _ ?_)
    refine tl_val (wanted_none rfl) (val_assign rfl) rfl rfl ?_
    refine tl_val (wanted_none rfl) (val_assign rfl) rfl rfl ?_
    refine tl_nil ?_
    repeat (first | refine tc_region ?_ | (refine tc_seq ?_; intro K hK) | refine tc_block ?_ | refine tc_exit ?_ | refine tc_ret ?_ | refine tc_skip ?_ | refine tc_cond_t rfl ?_ | refine tc_cond_f rfl ?_ | refine tk_then_n ?_ | refine tk_then_r ?_ | refine tk_then_e ?_ | refine tk_block_n ?_ | refine tk_block_r ?_ | refine tk_block_hit ?_ | refine tk_block_miss rfl ?_ | refine ‹∀ (e : Env) (As : List Atom), TC _ _ _ e As → TK _ _ e As› _ _ ?_)
    refine tk_ent (Ent.nilrow 56 6) ?_
    (first | apply tk_ret Try.results18 | apply tk_end Try.results18); (repeat (first | exact ResOK.nil | apply ResOK.tmp rfl | apply ResOK.agg rfl (by repeat (first | exact Has.here | refine Has.there ?_)) (by exact rfl) (by exact rfl) (by exact rfl) | apply ResOK.scalar rfl (by repeat (first | exact Has.here | refine Has.there ?_)) (by exact rfl) (by exact rfl))); intro w hw; refine ⟨_, _, rfl, ?_, hw⟩; try dsimp only [retV]
    have hbb : bb = false := by simpa using hc
    exact ⟨[], none, 0, by simp [closeF, hm, closeS, hf, hbb], nilH_nil, by simp [closeF, hm, closeS, hf, hbb], rfl⟩
  have hbb : bb = true := by simpa using hc
  obtain ⟨x, hx, _⟩ := hb.1 hbb
  have hrl : r < q.length := (List.getElem?_eq_some_iff.1 hx).1
  repeat (first | refine tc_region ?_ | (refine tc_seq ?_; intro K hK) | refine tc_block ?_ | refine tc_exit ?_ | refine tc_ret ?_ | refine tc_skip ?_ | refine tc_cond_t rfl ?_ | refine tc_cond_f rfl ?_ | refine tk_then_n ?_ | refine tk_then_r ?_ | refine tk_then_e ?_ | refine tk_block_n ?_ | refine tk_block_r ?_ | refine tk_block_hit ?_ | refine tk_block_miss rfl ?_ | refine ‹∀ (e : Env) (As : List Atom), TC _ _ _ e As → TK _ _ e As› _ _ ?_)
  refine tl_val (wanted_none rfl) (val_move rfl) rfl rfl ?_
  refine tl_val (wanted_none rfl) (val_move rfl) rfl rfl ?_
  (refine tl_eff (wanted_none rfl) (eff_call_at rfl rfl ok38 Pick.nil (fun w hw => without_m q A c r w (hl.keep hw) (by omega) (by omega) (by omega))) rfl rfl ?_; rintro _ _ ⟨_, ⟨A2, c2, rfl, rfl⟩, rfl⟩; simp only [List.cons_append, List.nil_append])
  refine tl_val (wanted_none rfl) (val_assign rfl) rfl rfl ?_
  refine tl_val (wanted_none rfl) (val_assign rfl) rfl rfl ?_
  refine tl_nil ?_
  repeat (first | refine tc_region ?_ | (refine tc_seq ?_; intro K hK) | refine tc_block ?_ | refine tc_exit ?_ | refine tc_ret ?_ | refine tc_skip ?_ | refine tc_cond_t rfl ?_ | refine tc_cond_f rfl ?_ | refine tk_then_n ?_ | refine tk_then_r ?_ | refine tk_then_e ?_ | refine tk_block_n ?_ | refine tk_block_r ?_ | refine tk_block_hit ?_ | refine tk_block_miss rfl ?_ | refine ‹∀ (e : Env) (As : List Atom), TC _ _ _ e As → TK _ _ e As› _ _ ?_)
  (first | apply tk_ret Try.results18 | apply tk_end Try.results18); (repeat (first | exact ResOK.nil | apply ResOK.tmp rfl | apply ResOK.agg rfl (by repeat (first | exact Has.here | refine Has.there ?_)) (by exact rfl) (by exact rfl) (by exact rfl) | apply ResOK.scalar rfl (by repeat (first | exact Has.here | refine Has.there ?_)) (by exact rfl) (by exact rfl))); intro w hw; refine ⟨_, _, rfl, ?_, hw⟩; try dsimp only [retV]
  have hC : closeF (ss q) k = ((ss q).eraseIdx r, 0) := by
    rw [closeF, if_pos hm, closeS, hf, if_pos hbb, if_neg (by omega), Int.toNat_natCast]
  refine ⟨(q.map clq).eraseIdx r, A2, c2, ?_, fun y hy => nilH_clq q y (List.mem_of_mem_eraseIdx hy), by rw [hC]; simp, by simp⟩
  rw [hC]
  show ((q.map clq).eraseIdx r).map _ = _
  rw [← erase_map]
  show (ss (q.map clq)).eraseIdx r = _
  rw [ss_clq hh]
def openF (l : List Sess) (k : Int) : List Sess × Int := if (mayB l && (numB 1 k && decide (findI k l 0 < 0))) = true then (openS l k, 0) else ([], 1)
end Go.Proofs.Ytefljdelmeifhaa

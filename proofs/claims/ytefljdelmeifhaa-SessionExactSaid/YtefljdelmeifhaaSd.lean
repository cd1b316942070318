/-
  Where a session stands in sessions that rise.
-/
import Derived.Test.YtefljdelmeifhaaSc
set_option linter.unusedVariables false
set_option linter.unusedSimpArgs false
set_option maxRecDepth 100000
namespace Go.Proofs.Ytefljdelmeifhaa
open Go.Eng
/-- Clients rise. -/
def Rises (l : List Sess) : Prop := ∀ (i j : Nat) (x y : Sess), i < j → l[i]? = some x → l[j]? = some y → x.client < y.client
/-- Where a client stands or would stand. -/
structure Pos (l : List Sess) (k : Int) (r : Nat) : Prop where
  le : r ≤ l.length
  lo : ∀ (i : Nat) (x : Sess), i < r → l[i]? = some x → x.client < k
  hi : ∀ (i : Nat) (x : Sess), r ≤ i → l[i]? = some x → k ≤ x.client
theorem cmp_neg (x y : Int) : decide (cmpI x y < 0) = decide (x < y) := by
  unfold cmpI
  split
  · simp [*]
  · split <;> simp [*]
theorem cmp_zero (x y : Int) : decide (cmpI x y = 0) = decide (x = y) := by
  unfold cmpI
  split
  · have : x ≠ y := by omega
    simp [this]
  · split
    · have : x ≠ y := by omega
      simp [this]
    · have : x = y := by omega
      simp [this]
theorem search_m (q : List SQ) (A : Option Addr) (c : Nat) (k : Int) (w : World) (hl : Sl w (fpAll []) enc 6 q A c) (hs : Rises (ss q)) :
    Meets Try.prog 42 [.slice A q.length c, .int .i64 k, .func (.func 43) #[] #[]] w (fpAll []) (fun v _ => ∃ (r : Nat) (b : Bool), v = .tuple #[.int .i64 r, .bool b] ∧ Pos (ss q) k r ∧ (b = true ↔ ∃ x, q[r]? = some x ∧ x.1.client = k)) := by
  refine enter tysOK Try.func42 rfl Try.ntmps42 rfl (HeapOK.start w) ?_
  have hlen := hl.len
  repeat (first | refine tc_region ?_ | (refine tc_seq ?_; intro K hK) | refine tc_block ?_ | refine tc_exit ?_ | refine tc_ret ?_ | refine tc_skip ?_ | refine tc_cond_t rfl ?_ | refine tc_cond_f rfl ?_ | refine tk_then_n ?_ | refine tk_then_r ?_ | refine tk_then_e ?_ | refine tk_block_n ?_ | refine tk_block_r ?_ | refine tk_block_hit ?_ | refine tk_block_miss rfl ?_ | refine ‹∀ (e : Env) (As : List Atom), TC _ _ _ e As → TK _ _ e As› _ _ ?_)
  refine tl_val (wanted_none rfl) (val_assign rfl) rfl rfl ?_
  refine tl_val (wanted_none rfl) (val_assign rfl) rfl rfl ?_
  refine tl_nil ?_
  repeat (first | refine tc_region ?_ | (refine tc_seq ?_; intro K hK) | refine tc_block ?_ | refine tc_exit ?_ | refine tc_ret ?_ | refine tc_skip ?_ | refine tc_cond_t rfl ?_ | refine tc_cond_f rfl ?_ | refine tk_then_n ?_ | refine tk_then_r ?_ | refine tk_then_e ?_ | refine tk_block_n ?_ | refine tk_block_r ?_ | refine tk_block_hit ?_ | refine tk_block_miss rfl ?_ | refine ‹∀ (e : Env) (As : List Atom), TC _ _ _ e As → TK _ _ e As› _ _ ?_)
  repeat (first | refine tc_region ?_ | (refine tc_seq ?_; intro K hK) | refine tc_block ?_ | refine tc_exit ?_ | refine tc_ret ?_ | refine tc_skip ?_ | refine tc_cond_t rfl ?_ | refine tc_cond_f rfl ?_ | refine tk_then_n ?_ | refine tk_then_r ?_ | refine tk_then_e ?_ | refine tk_block_n ?_ | refine tk_block_r ?_ | refine tk_block_hit ?_ | refine tk_block_miss rfl ?_ | refine ‹∀ (e : Env) (As : List Atom), TC _ _ _ e As → TK _ _ e As› _ _ ?_)
  refine tl_val (wanted_none rfl) (val_move rfl) rfl rfl ?_
  (first | refine tl_val (wanted_none rfl) (val_len_slice rfl rfl rfl rfl) rfl rfl ?_ | refine tl_val (wanted_none rfl) (val_len_string rfl rfl rfl rfl) rfl rfl ?_)
  refine tl_val (wanted_none rfl) (val_assign rfl) rfl rfl ?_
  refine tl_nil ?_
  repeat (first | refine tc_region ?_ | (refine tc_seq ?_; intro K hK) | refine tc_block ?_ | refine tc_exit ?_ | refine tc_ret ?_ | refine tc_skip ?_ | refine tc_cond_t rfl ?_ | refine tc_cond_f rfl ?_ | refine tk_then_n ?_ | refine tk_then_r ?_ | refine tk_then_e ?_ | refine tk_block_n ?_ | refine tk_block_r ?_ | refine tk_block_hit ?_ | refine tk_block_miss rfl ?_ | refine ‹∀ (e : Env) (As : List Atom), TC _ _ _ e As → TK _ _ e As› _ _ ?_)
  repeat (first | refine tc_region ?_ | (refine tc_seq ?_; intro K hK) | refine tc_block ?_ | refine tc_exit ?_ | refine tc_ret ?_ | refine tc_skip ?_ | refine tc_cond_t rfl ?_ | refine tc_cond_f rfl ?_ | refine tk_then_n ?_ | refine tk_then_r ?_ | refine tk_then_e ?_ | refine tk_block_n ?_ | refine tk_block_r ?_ | refine tk_block_hit ?_ | refine tk_block_miss rfl ?_ | refine ‹∀ (e : Env) (As : List Atom), TC _ _ _ e As → TK _ _ e As› _ _ ?_)
  refine tl_val (wanted_none rfl) (val_move rfl) rfl rfl ?_
  refine tl_val (wanted_none rfl) (val_assign rfl) rfl rfl ?_
  refine tl_val (wanted_none rfl) (val_assign rfl) rfl rfl ?_
  refine tl_nil ?_
  repeat (first | refine tc_region ?_ | (refine tc_seq ?_; intro K hK) | refine tc_block ?_ | refine tc_exit ?_ | refine tc_ret ?_ | refine tc_skip ?_ | refine tc_cond_t rfl ?_ | refine tc_cond_f rfl ?_ | refine tk_then_n ?_ | refine tk_then_r ?_ | refine tk_then_e ?_ | refine tk_block_n ?_ | refine tk_block_r ?_ | refine tk_block_hit ?_ | refine tk_block_miss rfl ?_ | refine ‹∀ (e : Env) (As : List Atom), TC _ _ _ e As → TK _ _ e As› _ _ ?_)
  refine tc_loop (σ := Int × Int) (fun s => [(9, .int .i64 s.1), (10, .int .i64 s.2), (8, .int .i64 q.length), (0, .slice A q.length c), (1, .int .i64 k), (2, .func (.func 43) #[] #[])]) (fun _ => []) (fun s => 0 ≤ s.1 ∧ s.1 ≤ s.2 ∧ s.2 ≤ q.length ∧ (∀ (i : Nat) (x : Sess), (i : Int) < s.1 → (ss q)[i]? = some x → x.client < k) ∧ (∀ (i : Nat) (x : Sess), s.2 ≤ i → (ss q)[i]? = some x → k ≤ x.client)) (fun s => (s.2 - s.1).toNat) (0, (q.length : Int)) ⟨by omega, by simp, by omega, fun i x h => by simp at h; omega, fun i x h hx => by
    have := (List.getElem?_eq_some_iff.1 hx).1
    simp at this h
    omega⟩ (by repeat (first | exact Sub.nil | apply Sub.cons rfl)) Ent.refl ?_
  intro s hi KL hKL
  obtain ⟨a, b⟩ := s
  obtain ⟨h0, h1, h2, hlo, hhi⟩ := hi
  simp only at h0 h1 h2 hlo hhi
  repeat (first | refine tc_region ?_ | (refine tc_seq ?_; intro K hK) | refine tc_block ?_ | refine tc_exit ?_ | refine tc_ret ?_ | refine tc_skip ?_ | refine tc_cond_t rfl ?_ | refine tc_cond_f rfl ?_ | refine tk_then_n ?_ | refine tk_then_r ?_ | refine tk_then_e ?_ | refine tk_block_n ?_ | refine tk_block_r ?_ | refine tk_block_hit ?_ | refine tk_block_miss rfl ?_ | refine ‹∀ (e : Env) (As : List Atom), TC _ _ _ e As → TK _ _ e As› _ _ ?_)
  refine tl_val (wanted_none rfl) (val_move rfl) rfl rfl ?_
  refine tl_val (wanted_none rfl) (val_move rfl) rfl rfl ?_
  refine tl_val (wanted_none rfl) (val_lss rfl rfl) rfl rfl ?_
  refine tl_nil ?_
  repeat (first | refine tc_region ?_ | (refine tc_seq ?_; intro K hK) | refine tc_block ?_ | refine tc_exit ?_ | refine tc_ret ?_ | refine tc_skip ?_ | refine tc_cond_t rfl ?_ | refine tc_cond_f rfl ?_ | refine tk_then_n ?_ | refine tk_then_r ?_ | refine tk_then_e ?_ | refine tk_block_n ?_ | refine tk_block_r ?_ | refine tk_block_hit ?_ | refine tk_block_miss rfl ?_ | refine ‹∀ (e : Env) (As : List Atom), TC _ _ _ e As → TK _ _ e As› _ _ ?_)
  refine tc_cond rfl (fun hc => ?_) (fun hc => ?_)
  · have hab : a < b := by simpa using hc
    repeat (first | refine tc_region ?_ | (refine tc_seq ?_; intro K hK) | refine tc_block ?_ | refine tc_exit ?_ | refine tc_ret ?_ | refine tc_skip ?_ | refine tc_cond_t rfl ?_ | refine tc_cond_f rfl ?_ | refine tk_then_n ?_ | refine tk_then_r ?_ | refine tk_then_e ?_ | refine tk_block_n ?_ | refine tk_block_r ?_ | refine tk_block_hit ?_ | refine tk_block_miss rfl ?_ | refine ‹∀ (e : Env) (As : List Atom), TC _ _ _ e As → TK _ _ e As› _ _ ?_)
    repeat (first | refine tc_region ?_ | (refine tc_seq ?_; intro K hK) | refine tc_block ?_ | refine tc_exit ?_ | refine tc_ret ?_ | refine tc_skip ?_ | refine tc_cond_t rfl ?_ | refine tc_cond_f rfl ?_ | refine tk_then_n ?_ | refine tk_then_r ?_ | refine tk_then_e ?_ | refine tk_block_n ?_ | refine tk_block_r ?_ | refine tk_block_hit ?_ | refine tk_block_miss rfl ?_ | refine ‹∀ (e : Env) (As : List Atom), TC _ _ _ e As → TK _ _ e As› _ _ ?_)
    refine tl_val (wanted_none rfl) (val_move rfl) rfl rfl ?_
    refine tl_val (wanted_none rfl) (val_move rfl) rfl rfl ?_
    refine tl_val (wanted_none rfl) (val_add rfl rfl (by simp only; omega)) rfl rfl ?_
    refine tl_val (wanted_none rfl) (val_convert rfl rfl rfl rfl) rfl rfl ?_
    refine tl_val (wanted_none rfl) (val_shr rfl rfl (by omega)) rfl rfl ?_
    refine tl_val (wanted_none rfl) (val_convert rfl rfl rfl rfl) rfl rfl ?_
    refine tl_val (wanted_none rfl) (val_assign rfl) rfl rfl ?_
    refine tl_nil ?_
    repeat (first | refine tc_region ?_ | (refine tc_seq ?_; intro K hK) | refine tc_block ?_ | refine tc_exit ?_ | refine tc_ret ?_ | refine tc_skip ?_ | refine tc_cond_t rfl ?_ | refine tc_cond_f rfl ?_ | refine tk_then_n ?_ | refine tk_then_r ?_ | refine tk_then_e ?_ | refine tk_block_n ?_ | refine tk_block_r ?_ | refine tk_block_hit ?_ | refine tk_block_miss rfl ?_ | refine ‹∀ (e : Env) (As : List Atom), TC _ _ _ e As → TK _ _ e As› _ _ ?_)
    rw [half (a + b) (by omega) (by omega)]
    obtain ⟨h, hh⟩ : ∃ h, (a + b) / 2 = h := ⟨_, rfl⟩
    rw [hh]
    have hh0 : 0 ≤ h := by omega
    have hh1 : h < q.length := by omega
    have hh2 : a ≤ h ∧ h < b := by omega
    obtain ⟨x, hx⟩ := get_some (l := q) hh0 hh1
    have hxs : (ss q)[h.toNat]? = some x.1 := by simp [hx]
    repeat (first | refine tc_region ?_ | (refine tc_seq ?_; intro K hK) | refine tc_block ?_ | refine tc_exit ?_ | refine tc_ret ?_ | refine tc_skip ?_ | refine tc_cond_t rfl ?_ | refine tc_cond_f rfl ?_ | refine tk_then_n ?_ | refine tk_then_r ?_ | refine tk_then_e ?_ | refine tk_block_n ?_ | refine tk_block_r ?_ | refine tk_block_hit ?_ | refine tk_block_miss rfl ?_ | refine ‹∀ (e : Env) (As : List Atom), TC _ _ _ e As → TK _ _ e As› _ _ ?_)
    refine tl_val (wanted_none rfl) (val_move rfl) rfl rfl ?_
    refine tl_val (wanted_none rfl) (val_move rfl) rfl rfl ?_
    refine tl_val (wanted_none rfl) (val_move rfl) rfl rfl ?_
    refine tl_val (wanted_none rfl) (val_indexAddr rfl rfl rfl rfl rfl hh0 hh1 (fun w' _ => hl.some (by omega))) rfl rfl ?_
    refine tl_val (wanted_none rfl) (val_load_elt_agg0 rfl (fun w' hw => hw.rd hl.rd) (getmap hx) rfl rfl rfl) rfl rfl ?_
    refine tl_val (wanted_none rfl) (val_move rfl) rfl rfl ?_
    (refine tl_eff (wanted_none rfl) (eff_call_pure rfl rfl ok43 (fun w hw => findc_m x _ w)) rfl rfl ?_; rintro _ _ ⟨rfl, rfl⟩)
    refine tl_val (wanted_none rfl) (val_lss rfl rfl) rfl rfl ?_
    refine tl_nil ?_
    repeat (first | refine tc_region ?_ | (refine tc_seq ?_; intro K hK) | refine tc_block ?_ | refine tc_exit ?_ | refine tc_ret ?_ | refine tc_skip ?_ | refine tc_cond_t rfl ?_ | refine tc_cond_f rfl ?_ | refine tk_then_n ?_ | refine tk_then_r ?_ | refine tk_then_e ?_ | refine tk_block_n ?_ | refine tk_block_r ?_ | refine tk_block_hit ?_ | refine tk_block_miss rfl ?_ | refine ‹∀ (e : Env) (As : List Atom), TC _ _ _ e As → TK _ _ e As› _ _ ?_)
    rw [cmp_neg]
    refine tc_cond rfl (fun g => ?_) (fun g => ?_)
    · repeat (first | refine tc_region ?_ | (refine tc_seq ?_; intro K hK) | refine tc_block ?_ | refine tc_exit ?_ | refine tc_ret ?_ | refine tc_skip ?_ | refine tc_cond_t rfl ?_ | refine tc_cond_f rfl ?_ | refine tk_then_n ?_ | refine tk_then_r ?_ | refine tk_then_e ?_ | refine tk_block_n ?_ | refine tk_block_r ?_ | refine tk_block_hit ?_ | refine tk_block_miss rfl ?_ | refine ‹∀ (e : Env) (As : List Atom), TC _ _ _ e As → TK _ _ e As› _ _ ?_)
      refine tl_val (wanted_none rfl) (val_move rfl) rfl rfl ?_
      refine tl_val (wanted_none rfl) (val_add rfl rfl (by omega)) rfl rfl ?_
      refine tl_val (wanted_none rfl) (val_assign rfl) rfl rfl ?_
      refine tl_nil ?_
      repeat (first | refine tc_region ?_ | (refine tc_seq ?_; intro K hK) | refine tc_block ?_ | refine tc_exit ?_ | refine tc_ret ?_ | refine tc_skip ?_ | refine tc_cond_t rfl ?_ | refine tc_cond_f rfl ?_ | refine tk_then_n ?_ | refine tk_then_r ?_ | refine tk_then_e ?_ | refine tk_block_n ?_ | refine tk_block_r ?_ | refine tk_block_hit ?_ | refine tk_block_miss rfl ?_ | refine ‹∀ (e : Env) (As : List Atom), TC _ _ _ e As → TK _ _ e As› _ _ ?_)
      simp at g
      exact TK.weaken (hKL (h + 1, b) ⟨by simp only; omega, by simp only; omega, h2, fun i y hi hy => by
        simp only at hi
        by_cases e : (i : Int) = h
        · have : i = h.toNat := by omega
          subst this
          rw [hxs] at hy
          injection hy with hy
          subst hy
          exact g
        · exact Int.lt_trans (hs i h.toNat y x.1 (by omega) hy hxs) g, hhi⟩ (by simp only; omega)) (by repeat (first | exact Sub.nil | apply Sub.cons rfl)) Ent.refl
    · repeat (first | refine tc_region ?_ | (refine tc_seq ?_; intro K hK) | refine tc_block ?_ | refine tc_exit ?_ | refine tc_ret ?_ | refine tc_skip ?_ | refine tc_cond_t rfl ?_ | refine tc_cond_f rfl ?_ | refine tk_then_n ?_ | refine tk_then_r ?_ | refine tk_then_e ?_ | refine tk_block_n ?_ | refine tk_block_r ?_ | refine tk_block_hit ?_ | refine tk_block_miss rfl ?_ | refine ‹∀ (e : Env) (As : List Atom), TC _ _ _ e As → TK _ _ e As› _ _ ?_)
      refine tl_val (wanted_none rfl) (val_move rfl) rfl rfl ?_
      refine tl_val (wanted_none rfl) (val_assign rfl) rfl rfl ?_
      refine tl_nil ?_
      repeat (first | refine tc_region ?_ | (refine tc_seq ?_; intro K hK) | refine tc_block ?_ | refine tc_exit ?_ | refine tc_ret ?_ | refine tc_skip ?_ | refine tc_cond_t rfl ?_ | refine tc_cond_f rfl ?_ | refine tk_then_n ?_ | refine tk_then_r ?_ | refine tk_then_e ?_ | refine tk_block_n ?_ | refine tk_block_r ?_ | refine tk_block_hit ?_ | refine tk_block_miss rfl ?_ | refine ‹∀ (e : Env) (As : List Atom), TC _ _ _ e As → TK _ _ e As› _ _ ?_)
      simp at g
      exact TK.weaken (hKL (a, h) ⟨h0, by simp only; omega, by simp only; omega, hlo, fun i y hi hy => by
        simp only at hi
        by_cases e : (i : Int) = h
        · have : i = h.toNat := by omega
          subst this
          rw [hxs] at hy
          injection hy with hy
          subst hy
          exact g
        · exact Int.le_trans g (Int.le_of_lt (hs h.toNat i x.1 y (by omega) hxs hy))⟩ (by simp only; omega)) (by repeat (first | exact Sub.nil | apply Sub.cons rfl)) Ent.refl
  · have hab : a = b := by have : ¬ a < b := by simpa using hc
                           omega
    subst hab
    have hpos : Pos (ss q) k a.toNat := ⟨by simp; omega, fun i x hi hx => hlo i x (by omega) hx, fun i x hi hx => hhi i x (by omega) hx⟩
    repeat (first | refine tc_region ?_ | (refine tc_seq ?_; intro K hK) | refine tc_block ?_ | refine tc_exit ?_ | refine tc_ret ?_ | refine tc_skip ?_ | refine tc_cond_t rfl ?_ | refine tc_cond_f rfl ?_ | refine tk_then_n ?_ | refine tk_then_r ?_ | refine tk_then_e ?_ | refine tk_block_n ?_ | refine tk_block_r ?_ | refine tk_block_hit ?_ | refine tk_block_miss rfl ?_ | refine ‹∀ (e : Env) (As : List Atom), TC _ _ _ e As → TK _ _ e As› _ _ ?_)
    refine tl_val (wanted_none rfl) (val_move rfl) rfl rfl ?_
    refine tl_val (wanted_none rfl) (val_move rfl) rfl rfl ?_
    refine tl_val (wanted_none rfl) (val_move rfl) rfl rfl ?_
    refine tl_val (wanted_none rfl) (val_lss rfl rfl) rfl rfl ?_
    refine tl_val (wanted_none rfl) (val_move rfl) rfl rfl ?_
    refine tl_case_g rfl rfl rfl (fun g => ?_) (fun g => ?_)
    · have g' : a < q.length := by simpa using g
      obtain ⟨x, hx⟩ := get_some (l := q) h0 g'
      (first | refine tl_val (wanted_some rfl rfl rfl) (val_move rfl) rfl rfl ?_ | refine tl_skip (by first | exact unwanted_t rfl rfl rfl | exact unwanted_f rfl rfl rfl | exact unwanted_u rfl rfl rfl) rfl rfl ?_)
      (first | refine tl_val (wanted_some rfl rfl rfl) (val_move rfl) rfl rfl ?_ | refine tl_skip (by first | exact unwanted_t rfl rfl rfl | exact unwanted_f rfl rfl rfl | exact unwanted_u rfl rfl rfl) rfl rfl ?_)
      (first | refine tl_val (wanted_some rfl rfl rfl) (val_move rfl) rfl rfl ?_ | refine tl_skip (by first | exact unwanted_t rfl rfl rfl | exact unwanted_f rfl rfl rfl | exact unwanted_u rfl rfl rfl) rfl rfl ?_)
      (first | refine tl_skip (by first | exact unwanted_t rfl rfl rfl | exact unwanted_f rfl rfl rfl | exact unwanted_u rfl rfl rfl) rfl rfl ?_ | refine tl_val (wanted_some rfl rfl rfl) (val_indexAddr rfl rfl rfl rfl rfl h0 g' (fun w' _ => hl.some (by omega))) rfl rfl ?_)
      (first | refine tl_skip (by first | exact unwanted_t rfl rfl rfl | exact unwanted_f rfl rfl rfl | exact unwanted_u rfl rfl rfl) rfl rfl ?_ | refine tl_val (wanted_some rfl rfl rfl) (val_load_elt_agg0 rfl (fun w' hw => hw.rd hl.rd) (getmap hx) rfl rfl rfl) rfl rfl ?_)
      (first | refine tl_val (wanted_some rfl rfl rfl) (val_move rfl) rfl rfl ?_ | refine tl_skip (by first | exact unwanted_t rfl rfl rfl | exact unwanted_f rfl rfl rfl | exact unwanted_u rfl rfl rfl) rfl rfl ?_)
      (first | refine tl_skip (by first | exact unwanted_t rfl rfl rfl | exact unwanted_f rfl rfl rfl | exact unwanted_u rfl rfl rfl) rfl rfl ?_ | (refine tl_eff (wanted_some rfl rfl rfl) (eff_call_pure rfl rfl ok43 (fun w hw => findc_m x _ w)) rfl rfl ?_; rintro _ _ ⟨rfl, rfl⟩))
      (first | refine tl_val (wanted_some rfl rfl rfl) (val_eql rfl rfl) rfl rfl ?_ | refine tl_val (wanted_some rfl rfl rfl) (val_str_eql rfl rfl) rfl rfl ?_ | refine tl_val (wanted_some rfl rfl rfl) (val_bool_eql rfl rfl rfl rfl) rfl rfl ?_ | refine tl_skip (by first | exact unwanted_t rfl rfl rfl | exact unwanted_f rfl rfl rfl | exact unwanted_u rfl rfl rfl) rfl rfl ?_)
      (first | refine tl_val (wanted_none rfl) (val_pick_t rfl rfl) rfl rfl ?_ | refine tl_val (wanted_none rfl) (val_pick_f rfl rfl) rfl rfl ?_)
      refine tl_val (wanted_none rfl) (val_assign rfl) rfl rfl ?_
      refine tl_val (wanted_none rfl) (val_assign rfl) rfl rfl ?_
      refine tl_nil ?_
      repeat (first | refine tc_region ?_ | (refine tc_seq ?_; intro K hK) | refine tc_block ?_ | refine tc_exit ?_ | refine tc_ret ?_ | refine tc_skip ?_ | refine tc_cond_t rfl ?_ | refine tc_cond_f rfl ?_ | refine tk_then_n ?_ | refine tk_then_r ?_ | refine tk_then_e ?_ | refine tk_block_n ?_ | refine tk_block_r ?_ | refine tk_block_hit ?_ | refine tk_block_miss rfl ?_ | refine ‹∀ (e : Env) (As : List Atom), TC _ _ _ e As → TK _ _ e As› _ _ ?_)
      (first | apply tk_ret Try.results42 | apply tk_end Try.results42); (repeat (first | exact ResOK.nil | apply ResOK.tmp rfl | apply ResOK.agg rfl (by repeat (first | exact Has.here | refine Has.there ?_)) (by exact rfl) (by exact rfl) (by exact rfl) | apply ResOK.scalar rfl (by repeat (first | exact Has.here | refine Has.there ?_)) (by exact rfl) (by exact rfl))); intro w hw; refine ⟨_, _, rfl, ?_, hw⟩; try dsimp only [retV]
      refine ⟨a.toNat, _, by rw [show ((a.toNat : Nat) : Int) = a by omega], hpos, ?_⟩
      rw [cmp_zero, decide_eq_true_eq]
      exact ⟨fun h => ⟨x, hx, h⟩, fun ⟨y, hy, hk⟩ => by rw [hx] at hy; injection hy with hy; rw [hy]; exact hk⟩
    · have g' : ¬ a < q.length := by simpa using g
      (first | refine tl_val (wanted_some rfl rfl rfl) (val_move rfl) rfl rfl ?_ | refine tl_skip (by first | exact unwanted_t rfl rfl rfl | exact unwanted_f rfl rfl rfl | exact unwanted_u rfl rfl rfl) rfl rfl ?_)
      (first | refine tl_val (wanted_some rfl rfl rfl) (val_move rfl) rfl rfl ?_ | refine tl_skip (by first | exact unwanted_t rfl rfl rfl | exact unwanted_f rfl rfl rfl | exact unwanted_u rfl rfl rfl) rfl rfl ?_)
      (first | refine tl_val (wanted_some rfl rfl rfl) (val_move rfl) rfl rfl ?_ | refine tl_skip (by first | exact unwanted_t rfl rfl rfl | exact unwanted_f rfl rfl rfl | exact unwanted_u rfl rfl rfl) rfl rfl ?_)
      refine tl_skip (by first | exact unwanted_t rfl rfl rfl | exact unwanted_f rfl rfl rfl | exact unwanted_u rfl rfl rfl) rfl rfl ?_
      (first | refine tl_val (wanted_some rfl rfl rfl) (val_load rfl (by repeat (first | exact Has.here | refine Has.there ?_)) (by exact rfl) (by exact rfl) (by exact rfl)) rfl rfl ?_ | refine tl_val (wanted_some rfl rfl rfl) (val_load_agg rfl (by repeat (first | exact Has.here | refine Has.there ?_)) (by exact rfl) (by exact rfl) (by simp only [Nat.reduceAdd, Nat.zero_add, Nat.add_zero, List.set_cons_zero, List.set_cons_succ, List.set_nil, List.drop_succ_cons, List.drop_zero, List.take_succ_cons, List.take_zero, List.take_nil, List.drop_nil, setL, ty56]; exact rfl) (by exact rfl)) rfl rfl ?_ | refine tl_skip (by first | exact unwanted_t rfl rfl rfl | exact unwanted_f rfl rfl rfl | exact unwanted_u rfl rfl rfl) rfl rfl ?_)
      (first | refine tl_val (wanted_some rfl rfl rfl) (val_move rfl) rfl rfl ?_ | refine tl_skip (by first | exact unwanted_t rfl rfl rfl | exact unwanted_f rfl rfl rfl | exact unwanted_u rfl rfl rfl) rfl rfl ?_)
      refine tl_skip (by first | exact unwanted_t rfl rfl rfl | exact unwanted_f rfl rfl rfl | exact unwanted_u rfl rfl rfl) rfl rfl ?_
      (first | refine tl_val (wanted_some rfl rfl rfl) (val_eql rfl rfl) rfl rfl ?_ | refine tl_val (wanted_some rfl rfl rfl) (val_str_eql rfl rfl) rfl rfl ?_ | refine tl_val (wanted_some rfl rfl rfl) (val_bool_eql rfl rfl rfl rfl) rfl rfl ?_ | refine tl_skip (by first | exact unwanted_t rfl rfl rfl | exact unwanted_f rfl rfl rfl | exact unwanted_u rfl rfl rfl) rfl rfl ?_)
      (first | refine tl_val (wanted_none rfl) (val_pick_t rfl rfl) rfl rfl ?_ | refine tl_val (wanted_none rfl) (val_pick_f rfl rfl) rfl rfl ?_)
      refine tl_val (wanted_none rfl) (val_assign rfl) rfl rfl ?_
      refine tl_val (wanted_none rfl) (val_assign rfl) rfl rfl ?_
      refine tl_nil ?_
      repeat (first | refine tc_region ?_ | (refine tc_seq ?_; intro K hK) | refine tc_block ?_ | refine tc_exit ?_ | refine tc_ret ?_ | refine tc_skip ?_ | refine tc_cond_t rfl ?_ | refine tc_cond_f rfl ?_ | refine tk_then_n ?_ | refine tk_then_r ?_ | refine tk_then_e ?_ | refine tk_block_n ?_ | refine tk_block_r ?_ | refine tk_block_hit ?_ | refine tk_block_miss rfl ?_ | refine ‹∀ (e : Env) (As : List Atom), TC _ _ _ e As → TK _ _ e As› _ _ ?_)
      (first | apply tk_ret Try.results42 | apply tk_end Try.results42); (repeat (first | exact ResOK.nil | apply ResOK.tmp rfl | apply ResOK.agg rfl (by repeat (first | exact Has.here | refine Has.there ?_)) (by exact rfl) (by exact rfl) (by exact rfl) | apply ResOK.scalar rfl (by repeat (first | exact Has.here | refine Has.there ?_)) (by exact rfl) (by exact rfl))); intro w hw; refine ⟨_, _, rfl, ?_, hw⟩; try dsimp only [retV]
      refine ⟨a.toNat, _, by rw [show ((a.toNat : Nat) : Int) = a by omega], hpos, ?_⟩
      have : q[a.toNat]? = none := List.getElem?_eq_none (by omega)
      simp [this]
theorem findP_m (q : List SQ) (A : Option Addr) (c : Nat) (k : Int) (w : World) (hl : Sl w (fpAll []) enc 6 q A c) (hs : Rises (ss q)) :
    Meets Try.prog 31 [.slice A q.length c, .int .i64 k] w (fpAll []) (fun v _ => ∃ (r : Nat) (b : Bool), v = .tuple #[.int .i64 r, .bool b] ∧ Pos (ss q) k r ∧ (b = true ↔ ∃ x, q[r]? = some x ∧ x.1.client = k)) := by
  refine enter tysOK Try.func31 rfl Try.ntmps31 rfl (HeapOK.start w) ?_
  repeat (first | refine tc_region ?_ | (refine tc_seq ?_; intro K hK) | refine tc_block ?_ | refine tc_exit ?_ | refine tc_ret ?_ | refine tc_skip ?_ | refine tc_cond_t rfl ?_ | refine tc_cond_f rfl ?_ | refine tk_then_n ?_ | refine tk_then_r ?_ | refine tk_then_e ?_ | refine tk_block_n ?_ | refine tk_block_r ?_ | refine tk_block_hit ?_ | refine tk_block_miss rfl ?_ | refine ‹∀ (e : Env) (As : List Atom), TC _ _ _ e As → TK _ _ e As› _ _ ?_)
  refine tl_val (wanted_none rfl) (val_assign rfl) rfl rfl ?_
  refine tl_val (wanted_none rfl) (val_assign rfl) rfl rfl ?_
  refine tl_nil ?_
  repeat (first | refine tc_region ?_ | (refine tc_seq ?_; intro K hK) | refine tc_block ?_ | refine tc_exit ?_ | refine tc_ret ?_ | refine tc_skip ?_ | refine tc_cond_t rfl ?_ | refine tc_cond_f rfl ?_ | refine tk_then_n ?_ | refine tk_then_r ?_ | refine tk_then_e ?_ | refine tk_block_n ?_ | refine tk_block_r ?_ | refine tk_block_hit ?_ | refine tk_block_miss rfl ?_ | refine ‹∀ (e : Env) (As : List Atom), TC _ _ _ e As → TK _ _ e As› _ _ ?_)
  repeat (first | refine tc_region ?_ | (refine tc_seq ?_; intro K hK) | refine tc_block ?_ | refine tc_exit ?_ | refine tc_ret ?_ | refine tc_skip ?_ | refine tc_cond_t rfl ?_ | refine tc_cond_f rfl ?_ | refine tk_then_n ?_ | refine tk_then_r ?_ | refine tk_then_e ?_ | refine tk_block_n ?_ | refine tk_block_r ?_ | refine tk_block_hit ?_ | refine tk_block_miss rfl ?_ | refine ‹∀ (e : Env) (As : List Atom), TC _ _ _ e As → TK _ _ e As› _ _ ?_)
  refine tl_val (wanted_none rfl) (val_move rfl) rfl rfl ?_
  refine tl_val (wanted_none rfl) (val_move rfl) rfl rfl ?_
  (refine tl_eff (wanted_none rfl) (eff_call_val rfl rfl ok42 (fun w hw => search_m q A c k w (hl.keep hw) hs)) rfl rfl ?_; rintro _ _ ⟨⟨r, b, rfl, hpos, hb⟩, rfl⟩)
  refine tl_val (wanted_none rfl) (val_extract rfl (by exact rfl)) rfl rfl ?_
  refine tl_val (wanted_none rfl) (val_extract rfl (by exact rfl)) rfl rfl ?_
  refine tl_val (wanted_none rfl) (val_assign rfl) rfl rfl ?_
  refine tl_val (wanted_none rfl) (val_assign rfl) rfl rfl ?_
  refine tl_nil ?_
  repeat (first | refine tc_region ?_ | (refine tc_seq ?_; intro K hK) | refine tc_block ?_ | refine tc_exit ?_ | refine tc_ret ?_ | refine tc_skip ?_ | refine tc_cond_t rfl ?_ | refine tc_cond_f rfl ?_ | refine tk_then_n ?_ | refine tk_then_r ?_ | refine tk_then_e ?_ | refine tk_block_n ?_ | refine tk_block_r ?_ | refine tk_block_hit ?_ | refine tk_block_miss rfl ?_ | refine ‹∀ (e : Env) (As : List Atom), TC _ _ _ e As → TK _ _ e As› _ _ ?_)
  (first | apply tk_ret Try.results31 | apply tk_end Try.results31); (repeat (first | exact ResOK.nil | apply ResOK.tmp rfl | apply ResOK.agg rfl (by repeat (first | exact Has.here | refine Has.there ?_)) (by exact rfl) (by exact rfl) (by exact rfl) | apply ResOK.scalar rfl (by repeat (first | exact Has.here | refine Has.there ?_)) (by exact rfl) (by exact rfl))); intro w hw; refine ⟨_, _, rfl, ?_, hw⟩; try dsimp only [retV]
  exact ⟨r, b, rfl, hpos, hb⟩
end Go.Proofs.Ytefljdelmeifhaa

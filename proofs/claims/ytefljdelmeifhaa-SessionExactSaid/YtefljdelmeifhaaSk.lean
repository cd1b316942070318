/-
  The page's own answer: a session opened.
-/
import Derived.Test.YtefljdelmeifhaaSj
import Derived.Test.YtefljdelmeifhaaEngO
set_option linter.unusedVariables false
set_option linter.unusedSimpArgs false
set_option maxRecDepth 100000
namespace Go.Proofs.Ytefljdelmeifhaa
open Go.Eng
theorem openR_m (q : List SQ) (A : Option Addr) (c : Nat) (k : Int) (w : World) (hl : Sl w (fpAll []) enc 6 q A c) (hh : bare q) (hb : q.length ≤ 1000) :
    Meets Try.prog 20 [.slice A q.length c, .int .i64 k] w (fpAll []) (fun v As => ∃ (q' : List SQ) (A' : Option Addr) (c' : Nat), ss q' = openS (ss q) k ∧ v = .slice A' q'.length c' ∧ As = [.row (.slice A' q'.length c') 56 6 (q'.map enc)]) := by
  refine enter tysOK Try.func20 rfl Try.ntmps20 rfl (HeapOK.start w) ?_
  repeat (first | refine tc_region ?_ | (refine tc_seq ?_; intro K hK) | refine tc_block ?_ | refine tc_exit ?_ | refine tc_ret ?_ | refine tc_skip ?_ | refine tc_cond_t rfl ?_ | refine tc_cond_f rfl ?_ | refine tk_then_n ?_ | refine tk_then_r ?_ | refine tk_then_e ?_ | refine tk_block_n ?_ | refine tk_block_r ?_ | refine tk_block_hit ?_ | refine tk_block_miss rfl ?_ | refine ‹∀ (e : Env) (As : List Atom), TC _ _ _ e As → TK _ _ e As› _ _ ?_)
  refine tl_val (wanted_none rfl) (val_assign rfl) rfl rfl ?_
  refine tl_nil ?_
  repeat (first | refine tc_region ?_ | (refine tc_seq ?_; intro K hK) | refine tc_block ?_ | refine tc_exit ?_ | refine tc_ret ?_ | refine tc_skip ?_ | refine tc_cond_t rfl ?_ | refine tc_cond_f rfl ?_ | refine tk_then_n ?_ | refine tk_then_r ?_ | refine tk_then_e ?_ | refine tk_block_n ?_ | refine tk_block_r ?_ | refine tk_block_hit ?_ | refine tk_block_miss rfl ?_ | refine ‹∀ (e : Env) (As : List Atom), TC _ _ _ e As → TK _ _ e As› _ _ ?_)
  repeat (first | refine tc_region ?_ | (refine tc_seq ?_; intro K hK) | refine tc_block ?_ | refine tc_exit ?_ | refine tc_ret ?_ | refine tc_skip ?_ | refine tc_cond_t rfl ?_ | refine tc_cond_f rfl ?_ | refine tk_then_n ?_ | refine tk_then_r ?_ | refine tk_then_e ?_ | refine tk_block_n ?_ | refine tk_block_r ?_ | refine tk_block_hit ?_ | refine tk_block_miss rfl ?_ | refine ‹∀ (e : Env) (As : List Atom), TC _ _ _ e As → TK _ _ e As› _ _ ?_)
  refine tl_val (wanted_none rfl) (val_move rfl) rfl rfl ?_
  (refine tl_eff (wanted_none rfl) (eff_call_at rfl rfl ok5 Pick.nil (fun w hw => copySessions_e q A _ c w rfl (hl.keep hw) hh (by omega))) rfl rfl ?_; rintro _ _ ⟨_, ⟨q1, A1, c1, hq1, rfl, rfl⟩, rfl⟩; simp only [List.cons_append, List.nil_append])
  refine tl_val (wanted_none rfl) (val_assign rfl) rfl rfl ?_
  refine tl_nil ?_
  repeat (first | refine tc_region ?_ | (refine tc_seq ?_; intro K hK) | refine tc_block ?_ | refine tc_exit ?_ | refine tc_ret ?_ | refine tc_skip ?_ | refine tc_cond_t rfl ?_ | refine tc_cond_f rfl ?_ | refine tk_then_n ?_ | refine tk_then_r ?_ | refine tk_then_e ?_ | refine tk_block_n ?_ | refine tk_block_r ?_ | refine tk_block_hit ?_ | refine tk_block_miss rfl ?_ | refine ‹∀ (e : Env) (As : List Atom), TC _ _ _ e As → TK _ _ e As› _ _ ?_)
  have hl1 : q1.length = q.length := by simpa using congrArg List.length hq1
  have hh1 := bare_of hh hq1
  rw [← hq1]
  repeat (first | refine tc_region ?_ | (refine tc_seq ?_; intro K hK) | refine tc_block ?_ | refine tc_exit ?_ | refine tc_ret ?_ | refine tc_skip ?_ | refine tc_cond_t rfl ?_ | refine tc_cond_f rfl ?_ | refine tk_then_n ?_ | refine tk_then_r ?_ | refine tk_then_e ?_ | refine tk_block_n ?_ | refine tk_block_r ?_ | refine tk_block_hit ?_ | refine tk_block_miss rfl ?_ | refine ‹∀ (e : Env) (As : List Atom), TC _ _ _ e As → TK _ _ e As› _ _ ?_)
  refine tl_val (wanted_none rfl) (val_move rfl) rfl rfl ?_
  (first | refine tl_val (wanted_none rfl) (val_len_slice rfl rfl rfl rfl) rfl rfl ?_ | refine tl_val (wanted_none rfl) (val_len_string rfl rfl rfl rfl) rfl rfl ?_)
  (first | refine tl_val (wanted_none rfl) (val_eql rfl rfl) rfl rfl ?_ | refine tl_val (wanted_none rfl) (val_str_eql rfl rfl) rfl rfl ?_ | refine tl_val (wanted_none rfl) (val_bool_eql rfl rfl rfl rfl) rfl rfl ?_)
  refine tl_nil ?_
  repeat (first | refine tc_region ?_ | (refine tc_seq ?_; intro K hK) | refine tc_block ?_ | refine tc_exit ?_ | refine tc_ret ?_ | refine tc_skip ?_ | refine tc_cond_t rfl ?_ | refine tc_cond_f rfl ?_ | refine tk_then_n ?_ | refine tk_then_r ?_ | refine tk_then_e ?_ | refine tk_block_n ?_ | refine tk_block_r ?_ | refine tk_block_hit ?_ | refine tk_block_miss rfl ?_ | refine ‹∀ (e : Env) (As : List Atom), TC _ _ _ e As → TK _ _ e As› _ _ ?_)
  refine tc_cond_join (σ := List SQ × Option Addr × Nat) (fun s => [(0, .slice s.2.1 s.1.length s.2.2), (1, .int .i64 k)]) (fun s => [.row (.slice s.2.1 s.1.length s.2.2) 56 6 (s.1.map enc)]) (fun s => bare s.1 ∧ s.1.length ≤ 1000 ∧ openS (ss q1) k = insS (ss s.1) k) rfl (fun hc J hJ => ?_) (fun hc J hJ => ?_) ?_
  · have h8 : q1.length = 8 := by simp at hc; omega
    repeat (first | refine tc_region ?_ | (refine tc_seq ?_; intro K hK) | refine tc_block ?_ | refine tc_exit ?_ | refine tc_ret ?_ | refine tc_skip ?_ | refine tc_cond_t rfl ?_ | refine tc_cond_f rfl ?_ | refine tk_then_n ?_ | refine tk_then_r ?_ | refine tk_then_e ?_ | refine tk_block_n ?_ | refine tk_block_r ?_ | refine tk_block_hit ?_ | refine tk_block_miss rfl ?_ | refine ‹∀ (e : Env) (As : List Atom), TC _ _ _ e As → TK _ _ e As› _ _ ?_)
    refine tl_val (wanted_none rfl) (val_assign rfl) rfl rfl ?_
    refine tl_nil ?_
    repeat (first | refine tc_region ?_ | (refine tc_seq ?_; intro K hK) | refine tc_block ?_ | refine tc_exit ?_ | refine tc_ret ?_ | refine tc_skip ?_ | refine tc_cond_t rfl ?_ | refine tc_cond_f rfl ?_ | refine tk_then_n ?_ | refine tk_then_r ?_ | refine tk_then_e ?_ | refine tk_block_n ?_ | refine tk_block_r ?_ | refine tk_block_hit ?_ | refine tk_block_miss rfl ?_ | refine ‹∀ (e : Env) (As : List Atom), TC _ _ _ e As → TK _ _ e As› _ _ ?_)
    repeat (first | refine tc_region ?_ | (refine tc_seq ?_; intro K hK) | refine tc_block ?_ | refine tc_exit ?_ | refine tc_ret ?_ | refine tc_skip ?_ | refine tc_cond_t rfl ?_ | refine tc_cond_f rfl ?_ | refine tk_then_n ?_ | refine tk_then_r ?_ | refine tk_then_e ?_ | refine tk_block_n ?_ | refine tk_block_r ?_ | refine tk_block_hit ?_ | refine tk_block_miss rfl ?_ | refine ‹∀ (e : Env) (As : List Atom), TC _ _ _ e As → TK _ _ e As› _ _ ?_)
    refine tl_val (wanted_none rfl) (val_assign rfl) rfl rfl ?_
    refine tl_nil ?_
    repeat (first | refine tc_region ?_ | (refine tc_seq ?_; intro K hK) | refine tc_block ?_ | refine tc_exit ?_ | refine tc_ret ?_ | refine tc_skip ?_ | refine tc_cond_t rfl ?_ | refine tc_cond_f rfl ?_ | refine tk_then_n ?_ | refine tk_then_r ?_ | refine tk_then_e ?_ | refine tk_block_n ?_ | refine tk_block_r ?_ | refine tk_block_hit ?_ | refine tk_block_miss rfl ?_ | refine ‹∀ (e : Env) (As : List Atom), TC _ _ _ e As → TK _ _ e As› _ _ ?_)
    obtain ⟨s0, hs0⟩ : ∃ x, q1[0]? = some x := ⟨q1[0]'(by omega), List.getElem?_eq_getElem (by omega)⟩
    have hl0 : leastI (ss q1) = leastG 0 s0.1.used 1 ((ss q1).drop 1) := by
      have := ss_drop hs0
      simp only [List.drop_zero] at this
      rw [this]
      rfl
    refine tc_loop (σ := Int × Nat) (fun s => [(6, .int .i64 s.1), (5, .int .i64 s.2), (0, .slice A1 q1.length c1), (1, .int .i64 k)]) (fun _ => [.row (.slice A1 q1.length c1) 56 6 (q1.map enc)]) (fun s => 1 ≤ s.1 ∧ s.1 ≤ q1.length ∧ ∃ y, q1[s.2]? = some y ∧ leastI (ss q1) = leastG s.2 y.1.used s.1.toNat ((ss q1).drop s.1.toNat)) (fun s => (q1.length - s.1).toNat) (1, 0) ⟨by simp, by simp; omega, s0, hs0, by simpa using hl0⟩ (by repeat (first | exact Sub.nil | apply Sub.cons rfl)) Ent.refl ?_
    rintro ⟨i, kk⟩ hi KL hKL
    obtain ⟨h0, h1, y, hy, hr⟩ := hi
    simp only at h0 h1 hy hr
    have hk : kk < q1.length := (List.getElem?_eq_some_iff.1 hy).1
    repeat (first | refine tc_region ?_ | (refine tc_seq ?_; intro K hK) | refine tc_block ?_ | refine tc_exit ?_ | refine tc_ret ?_ | refine tc_skip ?_ | refine tc_cond_t rfl ?_ | refine tc_cond_f rfl ?_ | refine tk_then_n ?_ | refine tk_then_r ?_ | refine tk_then_e ?_ | refine tk_block_n ?_ | refine tk_block_r ?_ | refine tk_block_hit ?_ | refine tk_block_miss rfl ?_ | refine ‹∀ (e : Env) (As : List Atom), TC _ _ _ e As → TK _ _ e As› _ _ ?_)
    refine tl_val (wanted_none rfl) (val_move rfl) rfl rfl ?_
    refine tl_val (wanted_none rfl) (val_move rfl) rfl rfl ?_
    (first | refine tl_val (wanted_none rfl) (val_len_slice rfl rfl rfl rfl) rfl rfl ?_ | refine tl_val (wanted_none rfl) (val_len_string rfl rfl rfl rfl) rfl rfl ?_)
    refine tl_val (wanted_none rfl) (val_lss rfl rfl) rfl rfl ?_
    refine tl_nil ?_
    repeat (first | refine tc_region ?_ | (refine tc_seq ?_; intro K hK) | refine tc_block ?_ | refine tc_exit ?_ | refine tc_ret ?_ | refine tc_skip ?_ | refine tc_cond_t rfl ?_ | refine tc_cond_f rfl ?_ | refine tk_then_n ?_ | refine tk_then_r ?_ | refine tk_then_e ?_ | refine tk_block_n ?_ | refine tk_block_r ?_ | refine tk_block_hit ?_ | refine tk_block_miss rfl ?_ | refine ‹∀ (e : Env) (As : List Atom), TC _ _ _ e As → TK _ _ e As› _ _ ?_)
    refine tc_cond rfl (fun hc => ?_) (fun hc => ?_)
    · have hlt : i < q1.length := by simpa using hc
      obtain ⟨x, hx⟩ := get_some (l := q1) (by omega) hlt
      rw [ss_drop hx, leastG] at hr
      repeat (first | refine tc_region ?_ | (refine tc_seq ?_; intro K hK) | refine tc_block ?_ | refine tc_exit ?_ | refine tc_ret ?_ | refine tc_skip ?_ | refine tc_cond_t rfl ?_ | refine tc_cond_f rfl ?_ | refine tk_then_n ?_ | refine tk_then_r ?_ | refine tk_then_e ?_ | refine tk_block_n ?_ | refine tk_block_r ?_ | refine tk_block_hit ?_ | refine tk_block_miss rfl ?_ | refine ‹∀ (e : Env) (As : List Atom), TC _ _ _ e As → TK _ _ e As› _ _ ?_)
      refine tc_mix [] [0, 1, 2, 3, 4, 5, 6, 7, 8, 9, 10] _ mixed (by kernel_rfl) Ent.refl ?_
      refine tm_val rfl rfl (wanted_none rfl) (val_move rfl) rfl rfl ?_
      refine tm_val rfl rfl (wanted_none rfl) (val_move rfl) rfl rfl ?_
      refine tm_val rfl rfl (wanted_none rfl) (val_indexAddr rfl rfl rfl rfl rfl (by omega) hlt (fun w' hw => row_some hw (by repeat (first | exact Has.here | refine Has.there ?_)) (by simp; omega))) rfl rfl ?_
      (first | refine tm_val rfl rfl (wanted_none rfl) (val_fieldAddr_blk rfl rfl rfl (by simp only [Nat.reduceAdd, Nat.zero_add, Nat.add_zero]; exact rfl)) rfl rfl ?_ | refine tm_val rfl rfl (wanted_none rfl) (val_fieldAddr_elt rfl rfl rfl (by simp only [Nat.reduceAdd, Nat.zero_add, Nat.add_zero]; exact rfl)) rfl rfl ?_ | refine tm_val rfl rfl (wanted_none rfl) (val_fieldAddr rfl rfl rfl) rfl rfl ?_)
      refine tm_val rfl rfl (wanted_none rfl) (val_load_elt rfl (fun w' hw => row_rd' hw (by repeat (first | exact Has.here | refine Has.there ?_))) (getmap hx) rfl rfl rfl) rfl rfl ?_
      refine tm_val rfl rfl (wanted_none rfl) (val_move rfl) rfl rfl ?_
      refine tm_val rfl rfl (wanted_none rfl) (val_move rfl) rfl rfl ?_
      refine tm_val rfl rfl (wanted_none rfl) (val_indexAddr rfl rfl rfl rfl rfl (by omega) (by omega) (fun w' hw => row_some hw (by repeat (first | exact Has.here | refine Has.there ?_)) (by simp; omega))) rfl rfl ?_
      (first | refine tm_val rfl rfl (wanted_none rfl) (val_fieldAddr_blk rfl rfl rfl (by simp only [Nat.reduceAdd, Nat.zero_add, Nat.add_zero]; exact rfl)) rfl rfl ?_ | refine tm_val rfl rfl (wanted_none rfl) (val_fieldAddr_elt rfl rfl rfl (by simp only [Nat.reduceAdd, Nat.zero_add, Nat.add_zero]; exact rfl)) rfl rfl ?_ | refine tm_val rfl rfl (wanted_none rfl) (val_fieldAddr rfl rfl rfl) rfl rfl ?_)
      refine tm_val rfl rfl (wanted_none rfl) (val_load_elt rfl (fun w' hw => row_rd' hw (by repeat (first | exact Has.here | refine Has.there ?_))) (getmap (by simpa using hy)) rfl rfl rfl) rfl rfl ?_
      refine tm_val rfl rfl (wanted_none rfl) (val_lss rfl rfl) rfl rfl ?_
      refine tm_nil ?_
      repeat (first | refine tc_region ?_ | (refine tc_seq ?_; intro K hK) | refine tc_block ?_ | refine tc_exit ?_ | refine tc_ret ?_ | refine tc_skip ?_ | refine tc_cond_t rfl ?_ | refine tc_cond_f rfl ?_ | refine tk_then_n ?_ | refine tk_then_r ?_ | refine tk_then_e ?_ | refine tk_block_n ?_ | refine tk_block_r ?_ | refine tk_block_hit ?_ | refine tk_block_miss rfl ?_ | refine ‹∀ (e : Env) (As : List Atom), TC _ _ _ e As → TK _ _ e As› _ _ ?_)
      refine tc_cond rfl (fun g => ?_) (fun g => ?_)
      · repeat (first | refine tc_region ?_ | (refine tc_seq ?_; intro K hK) | refine tc_block ?_ | refine tc_exit ?_ | refine tc_ret ?_ | refine tc_skip ?_ | refine tc_cond_t rfl ?_ | refine tc_cond_f rfl ?_ | refine tk_then_n ?_ | refine tk_then_r ?_ | refine tk_then_e ?_ | refine tk_block_n ?_ | refine tk_block_r ?_ | refine tk_block_hit ?_ | refine tk_block_miss rfl ?_ | refine ‹∀ (e : Env) (As : List Atom), TC _ _ _ e As → TK _ _ e As› _ _ ?_)
        refine tl_val (wanted_none rfl) (val_move rfl) rfl rfl ?_
        refine tl_val (wanted_none rfl) (val_assign rfl) rfl rfl ?_
        refine tl_nil ?_
        repeat (first | refine tc_region ?_ | (refine tc_seq ?_; intro K hK) | refine tc_block ?_ | refine tc_exit ?_ | refine tc_ret ?_ | refine tc_skip ?_ | refine tc_cond_t rfl ?_ | refine tc_cond_f rfl ?_ | refine tk_then_n ?_ | refine tk_then_r ?_ | refine tk_then_e ?_ | refine tk_block_n ?_ | refine tk_block_r ?_ | refine tk_block_hit ?_ | refine tk_block_miss rfl ?_ | refine ‹∀ (e : Env) (As : List Atom), TC _ _ _ e As → TK _ _ e As› _ _ ?_)
        repeat (first | refine tc_region ?_ | (refine tc_seq ?_; intro K hK) | refine tc_block ?_ | refine tc_exit ?_ | refine tc_ret ?_ | refine tc_skip ?_ | refine tc_cond_t rfl ?_ | refine tc_cond_f rfl ?_ | refine tk_then_n ?_ | refine tk_then_r ?_ | refine tk_then_e ?_ | refine tk_block_n ?_ | refine tk_block_r ?_ | refine tk_block_hit ?_ | refine tk_block_miss rfl ?_ | refine ‹∀ (e : Env) (As : List Atom), TC _ _ _ e As → TK _ _ e As› _ _ ?_)
        refine tl_val (wanted_none rfl) (val_move rfl) rfl rfl ?_
        refine tl_val (wanted_none rfl) (val_add rfl rfl (by omega)) rfl rfl ?_
        refine tl_val (wanted_none rfl) (val_assign rfl) rfl rfl ?_
        refine tl_nil ?_
        repeat (first | refine tc_region ?_ | (refine tc_seq ?_; intro K hK) | refine tc_block ?_ | refine tc_exit ?_ | refine tc_ret ?_ | refine tc_skip ?_ | refine tc_cond_t rfl ?_ | refine tc_cond_f rfl ?_ | refine tk_then_n ?_ | refine tk_then_r ?_ | refine tk_then_e ?_ | refine tk_block_n ?_ | refine tk_block_r ?_ | refine tk_block_hit ?_ | refine tk_block_miss rfl ?_ | refine ‹∀ (e : Env) (As : List Atom), TC _ _ _ e As → TK _ _ e As› _ _ ?_)
        simp at g
        rw [if_pos g] at hr
        exact TK.weaken (hKL (i + 1, i.toNat) ⟨by simp only; omega, by simp only; omega, x, hx, by simp only; rw [hr, show (i + 1).toNat = i.toNat + 1 by omega]⟩ (by simp only; omega)) (by simp only [show ((i.toNat : Nat) : Int) = i by omega]; repeat (first | exact Sub.nil | apply Sub.cons rfl)) Ent.refl
      · repeat (first | refine tc_region ?_ | (refine tc_seq ?_; intro K hK) | refine tc_block ?_ | refine tc_exit ?_ | refine tc_ret ?_ | refine tc_skip ?_ | refine tc_cond_t rfl ?_ | refine tc_cond_f rfl ?_ | refine tk_then_n ?_ | refine tk_then_r ?_ | refine tk_then_e ?_ | refine tk_block_n ?_ | refine tk_block_r ?_ | refine tk_block_hit ?_ | refine tk_block_miss rfl ?_ | refine ‹∀ (e : Env) (As : List Atom), TC _ _ _ e As → TK _ _ e As› _ _ ?_)
        refine tl_val (wanted_none rfl) (val_move rfl) rfl rfl ?_
        refine tl_val (wanted_none rfl) (val_add rfl rfl (by omega)) rfl rfl ?_
        refine tl_val (wanted_none rfl) (val_assign rfl) rfl rfl ?_
        refine tl_nil ?_
        repeat (first | refine tc_region ?_ | (refine tc_seq ?_; intro K hK) | refine tc_block ?_ | refine tc_exit ?_ | refine tc_ret ?_ | refine tc_skip ?_ | refine tc_cond_t rfl ?_ | refine tc_cond_f rfl ?_ | refine tk_then_n ?_ | refine tk_then_r ?_ | refine tk_then_e ?_ | refine tk_block_n ?_ | refine tk_block_r ?_ | refine tk_block_hit ?_ | refine tk_block_miss rfl ?_ | refine ‹∀ (e : Env) (As : List Atom), TC _ _ _ e As → TK _ _ e As› _ _ ?_)
        simp at g
        rw [if_neg (by omega)] at hr
        exact TK.weaken (hKL (i + 1, kk) ⟨by simp only; omega, by simp only; omega, y, hy, by simp only; rw [hr, show (i + 1).toNat = i.toNat + 1 by omega]⟩ (by simp only; omega)) (by repeat (first | exact Sub.nil | apply Sub.cons rfl)) Ent.refl
    · have hi : i.toNat = q1.length := by have : ¬ i < q1.length := by simpa using hc
                                          omega
      rw [hi, List.drop_of_length_le (by simp)] at hr
      have hle : leastI (ss q1) = kk := hr
      repeat (first | refine tc_region ?_ | (refine tc_seq ?_; intro K hK) | refine tc_block ?_ | refine tc_exit ?_ | refine tc_ret ?_ | refine tc_skip ?_ | refine tc_cond_t rfl ?_ | refine tc_cond_f rfl ?_ | refine tk_then_n ?_ | refine tk_then_r ?_ | refine tk_then_e ?_ | refine tk_block_n ?_ | refine tk_block_r ?_ | refine tk_block_hit ?_ | refine tk_block_miss rfl ?_ | refine ‹∀ (e : Env) (As : List Atom), TC _ _ _ e As → TK _ _ e As› _ _ ?_)
      refine tl_val (wanted_none rfl) (val_move rfl) rfl rfl ?_
      refine tl_val (wanted_none rfl) (val_move rfl) rfl rfl ?_
      (refine tl_eff (wanted_none rfl) (eff_call_at rfl rfl ok37 Pick.nil (fun w hw => drop_m q1 A1 _ c1 kk w rfl (Sl.row hw (by omega) Pick.nil (by repeat (first | exact Has.here | refine Has.there ?_)) (by omega)) hh1 (by omega) (by omega) (by omega))) rfl rfl ?_; rintro _ _ ⟨_, ⟨q2, A2, c2, hq2, rfl, rfl⟩, rfl⟩; simp only [List.cons_append, List.nil_append])
      refine tl_val (wanted_none rfl) (val_assign rfl) rfl rfl ?_
      refine tl_nil ?_
      repeat (first | refine tc_exit ?_ | refine tc_ret ?_ | refine tc_skip ?_ | refine tc_cond_t rfl ?_ | refine tc_cond_f rfl ?_ | refine tk_then_n ?_ | refine tk_then_r ?_ | refine tk_then_e ?_ | refine tk_block_n ?_ | refine tk_block_r ?_ | refine tk_block_hit ?_ | refine tk_block_miss rfl ?_)
      have hl2 : (ss q2).length = q2.length := by simp
      refine TK.weaken (hJ (q2, A2, c2) ⟨?_, ?_, ?_⟩) (by repeat (first | exact Sub.nil | apply Sub.cons rfl)) (Ent.pick (by repeat (first | exact Pick.nil | exact Rem.here | apply Rem.there | apply Pick.take)))
      · intro x hx
        have h1 : x.1 ∈ ss q2 := List.mem_map_of_mem hx
        rw [hq2] at h1
        obtain ⟨y, hy, hxy⟩ := List.mem_map.1 (List.mem_of_mem_eraseIdx h1)
        rw [← hxy]
        exact hh1 y hy
      · have := congrArg List.length hq2
        rw [List.length_eraseIdx] at this
        simp only [List.length_map] at this
        simp only
        split at this <;> omega
      · simp only
        rw [hq2, openS, if_pos (by simpa using h8), hle]
        rfl
  · repeat (first | refine tc_exit ?_ | refine tc_ret ?_ | refine tc_skip ?_ | refine tc_cond_t rfl ?_ | refine tc_cond_f rfl ?_ | refine tk_then_n ?_ | refine tk_then_r ?_ | refine tk_then_e ?_ | refine tk_block_n ?_ | refine tk_block_r ?_ | refine tk_block_hit ?_ | refine tk_block_miss rfl ?_)
    refine TK.weaken (hJ (q1, A1, c1) ⟨hh1, by simp only; omega, ?_⟩) (by repeat (first | exact Sub.nil | apply Sub.cons rfl)) Ent.refl
    simp only
    rw [openS, if_neg (by simp at hc ⊢; omega)]
  rintro ⟨q2, A2, c2⟩ ⟨hh2, hb2, hop⟩
  simp only at hh2 hb2 hop
  simp only
  repeat (first | refine tc_region ?_ | (refine tc_seq ?_; intro K hK) | refine tc_block ?_ | refine tc_exit ?_ | refine tc_ret ?_ | refine tc_skip ?_ | refine tc_cond_t rfl ?_ | refine tc_cond_f rfl ?_ | refine tk_then_n ?_ | refine tk_then_r ?_ | refine tk_then_e ?_ | refine tk_block_n ?_ | refine tk_block_r ?_ | refine tk_block_hit ?_ | refine tk_block_miss rfl ?_ | refine ‹∀ (e : Env) (As : List Atom), TC _ _ _ e As → TK _ _ e As› _ _ ?_)
  refine tl_val (wanted_none rfl) (val_assign rfl) rfl rfl ?_
  refine tl_nil ?_
  repeat (first | refine tc_region ?_ | (refine tc_seq ?_; intro K hK) | refine tc_block ?_ | refine tc_exit ?_ | refine tc_ret ?_ | refine tc_skip ?_ | refine tc_cond_t rfl ?_ | refine tc_cond_f rfl ?_ | refine tk_then_n ?_ | refine tk_then_r ?_ | refine tk_then_e ?_ | refine tk_block_n ?_ | refine tk_block_r ?_ | refine tk_block_hit ?_ | refine tk_block_miss rfl ?_ | refine ‹∀ (e : Env) (As : List Atom), TC _ _ _ e As → TK _ _ e As› _ _ ?_)
  refine tc_block_join (σ := Int) (fun i => [(7, .int .i64 i), (0, .slice A2 q2.length c2), (1, .int .i64 k)]) (fun _ => [.row (.slice A2 q2.length c2) 56 6 (q2.map enc)]) (fun i => 0 ≤ i ∧ i ≤ q2.length ∧ posI k (ss q2) = i.toNat) (fun J hJ => ?_) ?_
  · refine tc_loop (σ := Int) (fun i => [(7, .int .i64 i), (0, .slice A2 q2.length c2), (1, .int .i64 k)]) (fun _ => [.row (.slice A2 q2.length c2) 56 6 (q2.map enc)]) (fun i => 0 ≤ i ∧ i ≤ q2.length ∧ ∀ (j : Nat) (x : Sess), (j : Int) < i → (ss q2)[j]? = some x → x.client < k) (fun i => (q2.length - i).toNat) 0 ⟨by omega, by omega, fun j x h => by omega⟩ (by repeat (first | exact Sub.nil | apply Sub.cons rfl)) Ent.refl ?_
    intro i hi KL hKL
    obtain ⟨h0, h1, hlo⟩ := hi
    repeat (first | refine tc_region ?_ | (refine tc_seq ?_; intro K hK) | refine tc_block ?_ | refine tc_exit ?_ | refine tc_ret ?_ | refine tc_skip ?_ | refine tc_cond_t rfl ?_ | refine tc_cond_f rfl ?_ | refine tk_then_n ?_ | refine tk_then_r ?_ | refine tk_then_e ?_ | refine tk_block_n ?_ | refine tk_block_r ?_ | refine tk_block_hit ?_ | refine tk_block_miss rfl ?_ | refine ‹∀ (e : Env) (As : List Atom), TC _ _ _ e As → TK _ _ e As› _ _ ?_)
    refine tl_val (wanted_none rfl) (val_move rfl) rfl rfl ?_
    refine tl_val (wanted_none rfl) (val_move rfl) rfl rfl ?_
    (first | refine tl_val (wanted_none rfl) (val_len_slice rfl rfl rfl rfl) rfl rfl ?_ | refine tl_val (wanted_none rfl) (val_len_string rfl rfl rfl rfl) rfl rfl ?_)
    refine tl_val (wanted_none rfl) (val_lss rfl rfl) rfl rfl ?_
    refine tl_val (wanted_none rfl) (val_move rfl) rfl rfl ?_
    refine tl_case_g rfl rfl rfl (fun g => ?_) (fun g => ?_)
    · have hlt : i < q2.length := by simpa using g
      obtain ⟨x, hx⟩ := get_some (l := q2) h0 hlt
      have hxs : (ss q2)[i.toNat]? = some x.1 := by simp [hx]
      (first | refine tl_val (wanted_some rfl rfl rfl) (val_move rfl) rfl rfl ?_ | refine tl_skip (by first | exact unwanted_t rfl rfl rfl | exact unwanted_f rfl rfl rfl | exact unwanted_u rfl rfl rfl) rfl rfl ?_)
      (first | refine tl_val (wanted_some rfl rfl rfl) (val_move rfl) rfl rfl ?_ | refine tl_skip (by first | exact unwanted_t rfl rfl rfl | exact unwanted_f rfl rfl rfl | exact unwanted_u rfl rfl rfl) rfl rfl ?_)
      (first | refine tl_skip (by first | exact unwanted_t rfl rfl rfl | exact unwanted_f rfl rfl rfl | exact unwanted_u rfl rfl rfl) rfl rfl ?_ | refine tl_val (wanted_some rfl rfl rfl) (val_indexAddr rfl rfl rfl rfl rfl h0 hlt (fun w' hw => row_some hw (by repeat (first | exact Has.here | refine Has.there ?_)) (by simp; omega))) rfl rfl ?_)
      (first | refine tl_val (wanted_some rfl rfl rfl) (val_fieldAddr_blk rfl rfl rfl (by simp only [Nat.reduceAdd, Nat.zero_add, Nat.add_zero]; exact rfl)) rfl rfl ?_ | refine tl_val (wanted_some rfl rfl rfl) (val_fieldAddr_elt rfl rfl rfl (by simp only [Nat.reduceAdd, Nat.zero_add, Nat.add_zero]; exact rfl)) rfl rfl ?_ | refine tl_val (wanted_some rfl rfl rfl) (val_fieldAddr rfl rfl rfl) rfl rfl ?_ | refine tl_skip (by first | exact unwanted_t rfl rfl rfl | exact unwanted_f rfl rfl rfl | exact unwanted_u rfl rfl rfl) rfl rfl ?_)
      (first | refine tl_skip (by first | exact unwanted_t rfl rfl rfl | exact unwanted_f rfl rfl rfl | exact unwanted_u rfl rfl rfl) rfl rfl ?_ | refine tl_val (wanted_some rfl rfl rfl) (val_load_elt0 rfl (fun w' hw => row_rd' hw (by repeat (first | exact Has.here | refine Has.there ?_))) (getmap hx) rfl rfl rfl) rfl rfl ?_)
      (first | refine tl_val (wanted_some rfl rfl rfl) (val_move rfl) rfl rfl ?_ | refine tl_skip (by first | exact unwanted_t rfl rfl rfl | exact unwanted_f rfl rfl rfl | exact unwanted_u rfl rfl rfl) rfl rfl ?_)
      (first | refine tl_val (wanted_some rfl rfl rfl) (val_lss rfl rfl) rfl rfl ?_ | refine tl_skip (by first | exact unwanted_t rfl rfl rfl | exact unwanted_f rfl rfl rfl | exact unwanted_u rfl rfl rfl) rfl rfl ?_)
      (first | refine tl_val (wanted_none rfl) (val_pick_t rfl rfl) rfl rfl ?_ | refine tl_val (wanted_none rfl) (val_pick_f rfl rfl) rfl rfl ?_)
      refine tl_nil ?_
      repeat (first | refine tc_region ?_ | (refine tc_seq ?_; intro K hK) | refine tc_block ?_ | refine tc_exit ?_ | refine tc_ret ?_ | refine tc_skip ?_ | refine tc_cond_t rfl ?_ | refine tc_cond_f rfl ?_ | refine tk_then_n ?_ | refine tk_then_r ?_ | refine tk_then_e ?_ | refine tk_block_n ?_ | refine tk_block_r ?_ | refine tk_block_hit ?_ | refine tk_block_miss rfl ?_ | refine ‹∀ (e : Env) (As : List Atom), TC _ _ _ e As → TK _ _ e As› _ _ ?_)
      refine tc_cond rfl (fun g2 => ?_) (fun g2 => ?_)
      · simp at g2
        repeat (first | refine tc_region ?_ | (refine tc_seq ?_; intro K hK) | refine tc_block ?_ | refine tc_exit ?_ | refine tc_ret ?_ | refine tc_skip ?_ | refine tc_cond_t rfl ?_ | refine tc_cond_f rfl ?_ | refine tk_then_n ?_ | refine tk_then_r ?_ | refine tk_then_e ?_ | refine tk_block_n ?_ | refine tk_block_r ?_ | refine tk_block_hit ?_ | refine tk_block_miss rfl ?_ | refine ‹∀ (e : Env) (As : List Atom), TC _ _ _ e As → TK _ _ e As› _ _ ?_)
        refine tl_val (wanted_none rfl) (val_move rfl) rfl rfl ?_
        refine tl_val (wanted_none rfl) (val_add rfl rfl (by omega)) rfl rfl ?_
        refine tl_val (wanted_none rfl) (val_assign rfl) rfl rfl ?_
        refine tl_nil ?_
        repeat (first | refine tc_region ?_ | (refine tc_seq ?_; intro K hK) | refine tc_block ?_ | refine tc_exit ?_ | refine tc_ret ?_ | refine tc_skip ?_ | refine tc_cond_t rfl ?_ | refine tc_cond_f rfl ?_ | refine tk_then_n ?_ | refine tk_then_r ?_ | refine tk_then_e ?_ | refine tk_block_n ?_ | refine tk_block_r ?_ | refine tk_block_hit ?_ | refine tk_block_miss rfl ?_ | refine ‹∀ (e : Env) (As : List Atom), TC _ _ _ e As → TK _ _ e As› _ _ ?_)
        exact TK.weaken (hKL (i + 1) ⟨by omega, by omega, fun j y hj hy => by
          by_cases e : (j : Int) = i
          · have : j = i.toNat := by omega
            subst this
            rw [hxs] at hy
            injection hy with hy
            rw [← hy]
            exact g2
          · exact hlo j y (by omega) hy⟩ (by omega)) (by repeat (first | exact Sub.nil | apply Sub.cons rfl)) Ent.refl
      · simp at g2
        repeat (first | refine tc_exit ?_ | refine tc_ret ?_ | refine tc_skip ?_ | refine tc_cond_t rfl ?_ | refine tc_cond_f rfl ?_ | refine tk_then_n ?_ | refine tk_then_r ?_ | refine tk_then_e ?_ | refine tk_block_n ?_ | refine tk_block_r ?_ | refine tk_block_hit ?_ | refine tk_block_miss rfl ?_)
        exact TK.weaken (hJ i ⟨h0, h1, posI_eq _ _ _ (by simp; omega) (fun j y hj hy => hlo j y (by omega) hy) fun y hy => by rw [hxs] at hy; injection hy with hy; rw [← hy]; exact g2⟩) (by repeat (first | exact Sub.nil | apply Sub.cons rfl)) Ent.refl
    · have hlt : ¬ i < q2.length := by simpa using g
      (first | refine tl_val (wanted_some rfl rfl rfl) (val_move rfl) rfl rfl ?_ | refine tl_skip (by first | exact unwanted_t rfl rfl rfl | exact unwanted_f rfl rfl rfl | exact unwanted_u rfl rfl rfl) rfl rfl ?_)
      (first | refine tl_val (wanted_some rfl rfl rfl) (val_move rfl) rfl rfl ?_ | refine tl_skip (by first | exact unwanted_t rfl rfl rfl | exact unwanted_f rfl rfl rfl | exact unwanted_u rfl rfl rfl) rfl rfl ?_)
      refine tl_skip (by first | exact unwanted_t rfl rfl rfl | exact unwanted_f rfl rfl rfl | exact unwanted_u rfl rfl rfl) rfl rfl ?_
      (first | refine tl_val (wanted_some rfl rfl rfl) (val_fieldAddr_blk rfl rfl rfl (by simp only [Nat.reduceAdd, Nat.zero_add, Nat.add_zero]; exact rfl)) rfl rfl ?_ | refine tl_val (wanted_some rfl rfl rfl) (val_fieldAddr_elt rfl rfl rfl (by simp only [Nat.reduceAdd, Nat.zero_add, Nat.add_zero]; exact rfl)) rfl rfl ?_ | refine tl_val (wanted_some rfl rfl rfl) (val_fieldAddr rfl rfl rfl) rfl rfl ?_ | refine tl_skip (by first | exact unwanted_t rfl rfl rfl | exact unwanted_f rfl rfl rfl | exact unwanted_u rfl rfl rfl) rfl rfl ?_)
      (first | refine tl_val (wanted_some rfl rfl rfl) (val_load rfl (by repeat (first | exact Has.here | refine Has.there ?_)) (by exact rfl) (by exact rfl) (by exact rfl)) rfl rfl ?_ | refine tl_val (wanted_some rfl rfl rfl) (val_load_agg rfl (by repeat (first | exact Has.here | refine Has.there ?_)) (by exact rfl) (by exact rfl) (by simp only [Nat.reduceAdd, Nat.zero_add, Nat.add_zero, List.set_cons_zero, List.set_cons_succ, List.set_nil, List.drop_succ_cons, List.drop_zero, List.take_succ_cons, List.take_zero, List.take_nil, List.drop_nil, setL, ty3]; exact rfl) (by exact rfl)) rfl rfl ?_ | refine tl_skip (by first | exact unwanted_t rfl rfl rfl | exact unwanted_f rfl rfl rfl | exact unwanted_u rfl rfl rfl) rfl rfl ?_)
      (first | refine tl_val (wanted_some rfl rfl rfl) (val_move rfl) rfl rfl ?_ | refine tl_skip (by first | exact unwanted_t rfl rfl rfl | exact unwanted_f rfl rfl rfl | exact unwanted_u rfl rfl rfl) rfl rfl ?_)
      (first | refine tl_val (wanted_some rfl rfl rfl) (val_lss rfl rfl) rfl rfl ?_ | refine tl_skip (by first | exact unwanted_t rfl rfl rfl | exact unwanted_f rfl rfl rfl | exact unwanted_u rfl rfl rfl) rfl rfl ?_)
      (first | refine tl_val (wanted_none rfl) (val_pick_t rfl rfl) rfl rfl ?_ | refine tl_val (wanted_none rfl) (val_pick_f rfl rfl) rfl rfl ?_)
      refine tl_nil ?_
      repeat (first | refine tc_region ?_ | (refine tc_seq ?_; intro K hK) | refine tc_block ?_ | refine tc_exit ?_ | refine tc_ret ?_ | refine tc_skip ?_ | refine tc_cond_t rfl ?_ | refine tc_cond_f rfl ?_ | refine tk_then_n ?_ | refine tk_then_r ?_ | refine tk_then_e ?_ | refine tk_block_n ?_ | refine tk_block_r ?_ | refine tk_block_hit ?_ | refine tk_block_miss rfl ?_ | refine ‹∀ (e : Env) (As : List Atom), TC _ _ _ e As → TK _ _ e As› _ _ ?_)
      exact TK.weaken (hJ i ⟨h0, h1, posI_eq _ _ _ (by simp; omega) (fun j y hj hy => hlo j y (by omega) hy) fun y hy => by
        have := (List.getElem?_eq_some_iff.1 hy).1
        simp at this
        omega⟩) (by repeat (first | exact Sub.nil | apply Sub.cons rfl)) Ent.refl
  rintro i ⟨h0, h1, hp⟩
  repeat (first | refine tc_region ?_ | (refine tc_seq ?_; intro K hK) | refine tc_block ?_ | refine tc_exit ?_ | refine tc_ret ?_ | refine tc_skip ?_ | refine tc_cond_t rfl ?_ | refine tc_cond_f rfl ?_ | refine tk_then_n ?_ | refine tk_then_r ?_ | refine tk_then_e ?_ | refine tk_block_n ?_ | refine tk_block_r ?_ | refine tk_block_hit ?_ | refine tk_block_miss rfl ?_ | refine ‹∀ (e : Env) (As : List Atom), TC _ _ _ e As → TK _ _ e As› _ _ ?_)
  refine tl_fact (p := q2.length ≤ c2) (fun w hw => by have := (row_cap hw Has.here).2; simpa using this) (fun hc2 => ?_)
  refine tl_val (wanted_none rfl) (val_move rfl) rfl rfl ?_
  refine tl_val (wanted_none rfl) (val_move rfl) rfl rfl ?_
  refine tl_val (wanted_none rfl) (val_slice_hi rfl rfl rfl rfl rfl h0 (by omega)) rfl rfl ?_
  (refine tl_eff (wanted_none rfl) (eff_call_at rfl rfl ok5 Pick.nil (fun w hw => copySessions_e (q2.take i.toNat) _ _ _ w (by simp; omega) ((Sl.row hw (by omega) Pick.nil (by repeat (first | exact Has.here | refine Has.there ?_)) (by omega)).takeC _) (bare_take hh2 _) (by simp; omega))) rfl rfl ?_; rintro _ _ ⟨_, ⟨q3, A3, c3, hq3, rfl, rfl⟩, rfl⟩; simp only [List.cons_append, List.nil_append])
  refine tl_val (wanted_none rfl) (val_move rfl) rfl rfl ?_
  refine tl_val (wanted_none rfl) (val_move rfl) rfl rfl ?_
  refine tl_val (wanted_none rfl) (val_build rfl (by exact rfl) (by exact rfl) (by exact rfl)) rfl rfl ?_
  (refine tl_eff (wanted_none rfl) (eff_buildSlice1 rfl (by simp only [Value.cells, List.toList_toArray]; exact rfl) rfl rfl rfl rfl rfl rfl) rfl rfl ?_; rintro _ _ ⟨b, rfl, rfl⟩)
  (refine tl_eff (wanted_none rfl) (eff_append1 rfl rfl rfl rfl rfl rfl rfl rfl (by repeat (first | exact Rem.here | apply Rem.there)) (by repeat (first | exact Has.here | refine Has.there ?_)) rfl rfl (by have := congrArg List.length hq3; simp [ty56] at this ⊢; omega)) rfl rfl ?_; rintro _ _ ⟨Ax, cx, rfl, rfl⟩)
  refine tl_val (wanted_none rfl) (val_assign rfl) rfl rfl ?_
  refine tl_nil ?_
  repeat (first | refine tc_region ?_ | (refine tc_seq ?_; intro K hK) | refine tc_block ?_ | refine tc_exit ?_ | refine tc_ret ?_ | refine tc_skip ?_ | refine tc_cond_t rfl ?_ | refine tc_cond_f rfl ?_ | refine tk_then_n ?_ | refine tk_then_r ?_ | refine tk_then_e ?_ | refine tk_block_n ?_ | refine tk_block_r ?_ | refine tk_block_hit ?_ | refine tk_block_miss rfl ?_ | refine ‹∀ (e : Env) (As : List Atom), TC _ _ _ e As → TK _ _ e As› _ _ ?_)
  have hl3 : q3.length = i.toNat := by have := congrArg List.length hq3; simp at this; omega
  repeat (first | refine tc_region ?_ | (refine tc_seq ?_; intro K hK) | refine tc_block ?_ | refine tc_exit ?_ | refine tc_ret ?_ | refine tc_skip ?_ | refine tc_cond_t rfl ?_ | refine tc_cond_f rfl ?_ | refine tk_then_n ?_ | refine tk_then_r ?_ | refine tk_then_e ?_ | refine tk_block_n ?_ | refine tk_block_r ?_ | refine tk_block_hit ?_ | refine tk_block_miss rfl ?_ | refine ‹∀ (e : Env) (As : List Atom), TC _ _ _ e As → TK _ _ e As› _ _ ?_)
  refine tl_val (wanted_none rfl) (val_move rfl) rfl rfl ?_
  refine tl_val (wanted_none rfl) (val_move rfl) rfl rfl ?_
  refine tl_val (wanted_none rfl) (val_move rfl) rfl rfl ?_
  refine tl_val (wanted_none rfl) (val_slice_lo rfl rfl rfl rfl rfl h0 (by omega)) rfl rfl ?_
  (refine tl_eff (wanted_none rfl) (eff_append (ys := (q2.drop i.toNat).map enc) rfl rfl rfl rfl rfl rfl rfl rfl (by repeat (first | exact Rem.here | apply Rem.there)) (by simp) (fun w hw => (Sl.drop (Sl.row (s := 6) (enc := enc) (l := q2) hw (by omega) Pick.nil (by repeat (first | exact Has.here | refine Has.there ?_)) (by omega)) i.toNat).rd.rd) (enc_ok _) (by simp [ty56]; omega) (by simp; omega)) rfl rfl ?_; rintro _ _ ⟨Ay, cy, rfl, rfl⟩)
  refine tl_val (wanted_none rfl) (val_assign rfl) rfl rfl ?_
  refine tl_nil ?_
  repeat (first | refine tc_region ?_ | (refine tc_seq ?_; intro K hK) | refine tc_block ?_ | refine tc_exit ?_ | refine tc_ret ?_ | refine tc_skip ?_ | refine tc_cond_t rfl ?_ | refine tc_cond_f rfl ?_ | refine tk_then_n ?_ | refine tk_then_r ?_ | refine tk_then_e ?_ | refine tk_block_n ?_ | refine tk_block_r ?_ | refine tk_block_hit ?_ | refine tk_block_miss rfl ?_ | refine ‹∀ (e : Env) (As : List Atom), TC _ _ _ e As → TK _ _ e As› _ _ ?_)
  have e1 : ∀ l, l = enc (newS k, none, 0) → (q3.map enc ++ [l]) ++ (q2.drop i.toNat).map enc = (q3 ++ (newS k, none, 0) :: q2.drop i.toNat).map enc := by
    rintro _ rfl
    simp
  rw [show setL (setL ty56.zero 0 [Value.int .i64 k]) 5 [.int .i64 k] = enc (newS k, none, 0) from rfl, e1 _ rfl]
  simp only [List.length_map]
  (first | apply tk_ret Try.results20 | apply tk_end Try.results20); (repeat (first | exact ResOK.nil | apply ResOK.tmp rfl | apply ResOK.agg rfl (by repeat (first | exact Has.here | refine Has.there ?_)) (by exact rfl) (by exact rfl) (by exact rfl) | apply ResOK.scalar rfl (by repeat (first | exact Has.here | refine Has.there ?_)) (by exact rfl) (by exact rfl))); intro w hw; refine ⟨_, [.row (.slice Ay (q3 ++ (newS k, none, 0) :: q2.drop i.toNat).length cy) 56 6 ((q3 ++ (newS k, none, 0) :: q2.drop i.toNat).map enc)], rfl, ?_, hw.pick (by repeat (first | exact Pick.nil | exact Rem.here | apply Rem.there | apply Pick.take))⟩; try dsimp only [retV]
  refine ⟨q3 ++ (newS k, none, 0) :: q2.drop i.toNat, Ay, cy, ?_, rfl, rfl⟩
  rw [← hq1, hop, insS, hp, ss, List.map_append]
  show ss q3 ++ _ = _
  rw [hq3]
  simp [ss, List.map_take, List.map_drop]
end Go.Proofs.Ytefljdelmeifhaa

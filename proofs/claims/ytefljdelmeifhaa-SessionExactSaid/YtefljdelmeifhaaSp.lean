/-
  What is more than is played; what is spoilt.
-/
import Derived.Test.YtefljdelmeifhaaSm
set_option linter.unusedVariables false
set_option linter.unusedSimpArgs false
set_option maxRecDepth 100000
namespace Go.Proofs.Ytefljdelmeifhaa
open Go.Eng
/-- An act: what, client, number, index; a reply. -/
abbrev AQ := (Int × Int × Int × Int) × SQ
def aenc (a : AQ) : List Value := [.int .i64 a.1.1, .int .i64 a.1.2.1, .int .i64 a.1.2.2.1, .int .i64 a.1.2.2.2, .int .i64 a.2.1.err, .int .i64 a.2.1.n, .slice a.2.2.1 a.2.1.hits.length a.2.2.2]
theorem heavy_m (q : List SQ) (l : List AQ) (A B : Option Addr) (c d : Nat) (w : World) (hl : Sl w (fpAll []) enc 6 q A c) (hm : Sl w (fpAll []) aenc 7 l B d) (hq : ∀ x ∈ q, x.1.hits.length ≤ 140737488355328) (ha : ∀ x ∈ l, x.2.1.hits.length ≤ 140737488355328) :
    Meets Try.prog 4 [.agg #[.slice A q.length c, .slice B l.length d]] w (fpAll []) (fun v _ => ∃ b, v = .bool b ∧ (b = false → q.length ≤ 500 ∧ (∀ x ∈ q, x.1.hits.length ≤ 500) ∧ ∀ x ∈ l, x.2.1.hits.length ≤ 500)) := by
  have hql := hl.len
  have hll := hm.len
  refine enter tysOK Try.func4 rfl Try.ntmps4 rfl (HeapOK.start w) ?_
  repeat (first | refine tc_region ?_ | (refine tc_seq ?_; intro K hK) | refine tc_block ?_ | refine tc_exit ?_ | refine tc_ret ?_ | refine tc_skip ?_ | refine tc_cond_t rfl ?_ | refine tc_cond_f rfl ?_ | refine tk_then_n ?_ | refine tk_then_r ?_ | refine tk_then_e ?_ | refine tk_block_n ?_ | refine tk_block_r ?_ | refine tk_block_hit ?_ | refine tk_block_miss rfl ?_ | refine ‹∀ (e : Env) (As : List Atom), TC _ _ _ e As → TK _ _ e As› _ _ ?_)
  (refine tl_eff (wanted_none rfl) (eff_box rfl (by simp only [Value.cells, List.toList_toArray]; exact rfl)) rfl rfl ?_; rintro _ _ ⟨b, rfl, rfl⟩)
  refine tl_val (wanted_none rfl) (val_assign rfl) rfl rfl ?_
  refine tl_nil ?_
  repeat (first | refine tc_region ?_ | (refine tc_seq ?_; intro K hK) | refine tc_block ?_ | refine tc_exit ?_ | refine tc_ret ?_ | refine tc_skip ?_ | refine tc_cond_t rfl ?_ | refine tc_cond_f rfl ?_ | refine tk_then_n ?_ | refine tk_then_r ?_ | refine tk_then_e ?_ | refine tk_block_n ?_ | refine tk_block_r ?_ | refine tk_block_hit ?_ | refine tk_block_miss rfl ?_ | refine ‹∀ (e : Env) (As : List Atom), TC _ _ _ e As → TK _ _ e As› _ _ ?_)
  repeat (first | refine tc_region ?_ | (refine tc_seq ?_; intro K hK) | refine tc_block ?_ | refine tc_exit ?_ | refine tc_ret ?_ | refine tc_skip ?_ | refine tc_cond_t rfl ?_ | refine tc_cond_f rfl ?_ | refine tk_then_n ?_ | refine tk_then_r ?_ | refine tk_then_e ?_ | refine tk_block_n ?_ | refine tk_block_r ?_ | refine tk_block_hit ?_ | refine tk_block_miss rfl ?_ | refine ‹∀ (e : Env) (As : List Atom), TC _ _ _ e As → TK _ _ e As› _ _ ?_)
  (first | refine tl_val (wanted_none rfl) (val_fieldAddr_blk rfl rfl rfl (by simp only [Nat.reduceAdd, Nat.zero_add, Nat.add_zero]; exact rfl)) rfl rfl ?_ | refine tl_val (wanted_none rfl) (val_fieldAddr_elt rfl rfl rfl (by simp only [Nat.reduceAdd, Nat.zero_add, Nat.add_zero]; exact rfl)) rfl rfl ?_ | refine tl_val (wanted_none rfl) (val_fieldAddr rfl rfl rfl) rfl rfl ?_)
  (first | refine tl_val (wanted_none rfl) (val_load rfl (by repeat (first | exact Has.here | refine Has.there ?_)) (by exact rfl) (by exact rfl) (by exact rfl)) rfl rfl ?_ | refine tl_val (wanted_none rfl) (val_load_agg rfl (by repeat (first | exact Has.here | refine Has.there ?_)) (by exact rfl) (by exact rfl) (by simp only [Nat.reduceAdd, Nat.zero_add, Nat.add_zero, List.set_cons_zero, List.set_cons_succ, List.set_nil, List.drop_succ_cons, List.drop_zero, List.take_succ_cons, List.take_zero, List.take_nil, List.drop_nil, setL, ty22]; exact rfl) (by exact rfl)) rfl rfl ?_)
  (first | refine tl_val (wanted_none rfl) (val_len_slice rfl rfl rfl rfl) rfl rfl ?_ | refine tl_val (wanted_none rfl) (val_len_string rfl rfl rfl rfl) rfl rfl ?_)
  refine tl_val (wanted_none rfl) (val_assign rfl) rfl rfl ?_
  refine tl_nil ?_
  repeat (first | refine tc_region ?_ | (refine tc_seq ?_; intro K hK) | refine tc_block ?_ | refine tc_exit ?_ | refine tc_ret ?_ | refine tc_skip ?_ | refine tc_cond_t rfl ?_ | refine tc_cond_f rfl ?_ | refine tk_then_n ?_ | refine tk_then_r ?_ | refine tk_then_e ?_ | refine tk_block_n ?_ | refine tk_block_r ?_ | refine tk_block_hit ?_ | refine tk_block_miss rfl ?_ | refine ‹∀ (e : Env) (As : List Atom), TC _ _ _ e As → TK _ _ e As› _ _ ?_)
  repeat (first | refine tc_region ?_ | (refine tc_seq ?_; intro K hK) | refine tc_block ?_ | refine tc_exit ?_ | refine tc_ret ?_ | refine tc_skip ?_ | refine tc_cond_t rfl ?_ | refine tc_cond_f rfl ?_ | refine tk_then_n ?_ | refine tk_then_r ?_ | refine tk_then_e ?_ | refine tk_block_n ?_ | refine tk_block_r ?_ | refine tk_block_hit ?_ | refine tk_block_miss rfl ?_ | refine ‹∀ (e : Env) (As : List Atom), TC _ _ _ e As → TK _ _ e As› _ _ ?_)
  refine tl_val (wanted_none rfl) (val_assign rfl) rfl rfl ?_
  refine tl_nil ?_
  repeat (first | refine tc_region ?_ | (refine tc_seq ?_; intro K hK) | refine tc_block ?_ | refine tc_exit ?_ | refine tc_ret ?_ | refine tc_skip ?_ | refine tc_cond_t rfl ?_ | refine tc_cond_f rfl ?_ | refine tk_then_n ?_ | refine tk_then_r ?_ | refine tk_then_e ?_ | refine tk_block_n ?_ | refine tk_block_r ?_ | refine tk_block_hit ?_ | refine tk_block_miss rfl ?_ | refine ‹∀ (e : Env) (As : List Atom), TC _ _ _ e As → TK _ _ e As› _ _ ?_)
  refine tc_block_join (σ := Int) (fun n => [(1, .pointer (some ⟨b, 0, none⟩)), (3, .int .i64 n)]) (fun _ => [.blk b [.slice A q.length c, .slice B l.length d] 25]) (fun n => (q.length : Int) ≤ n ∧ n ≤ 281474976710656 ∧ (n < 5000 → ∀ (j : Nat) (x : SQ), q[j]? = some x → (x.1.hits.length : Int) ≤ n)) (fun J hJ => ?_) ?_
  · refine tc_loop (σ := Int × Int) (fun s => [(1, .pointer (some ⟨b, 0, none⟩)), (4, .int .i64 s.1), (3, .int .i64 s.2)]) (fun _ => [.blk b [.slice A q.length c, .slice B l.length d] 25]) (fun s => 0 ≤ s.1 ∧ s.1 ≤ q.length ∧ (q.length : Int) ≤ s.2 ∧ s.2 ≤ 281474976710656 ∧ ∀ (j : Nat) (x : SQ), (j : Int) < s.1 → q[j]? = some x → (x.1.hits.length : Int) ≤ s.2) (fun s => (q.length - s.1).toNat) (0, (q.length : Int)) ⟨by simp, by simp, by simp, by simp; omega, fun j x h => by simp at h; omega⟩ (by repeat (first | exact Sub.nil | apply Sub.cons rfl)) Ent.refl ?_
    rintro ⟨i, n⟩ hi KL hKL
    obtain ⟨h0, h1, h2, h3, h4⟩ := hi
    simp only at h0 h1 h2 h3 h4
    repeat (first | refine tc_region ?_ | (refine tc_seq ?_; intro K hK) | refine tc_block ?_ | refine tc_exit ?_ | refine tc_ret ?_ | refine tc_skip ?_ | refine tc_cond_t rfl ?_ | refine tc_cond_f rfl ?_ | refine tk_then_n ?_ | refine tk_then_r ?_ | refine tk_then_e ?_ | refine tk_block_n ?_ | refine tk_block_r ?_ | refine tk_block_hit ?_ | refine tk_block_miss rfl ?_ | refine ‹∀ (e : Env) (As : List Atom), TC _ _ _ e As → TK _ _ e As› _ _ ?_)
    refine tl_val (wanted_none rfl) (val_move rfl) rfl rfl ?_
    (first | refine tl_val (wanted_none rfl) (val_fieldAddr_blk rfl rfl rfl (by simp only [Nat.reduceAdd, Nat.zero_add, Nat.add_zero]; exact rfl)) rfl rfl ?_ | refine tl_val (wanted_none rfl) (val_fieldAddr_elt rfl rfl rfl (by simp only [Nat.reduceAdd, Nat.zero_add, Nat.add_zero]; exact rfl)) rfl rfl ?_ | refine tl_val (wanted_none rfl) (val_fieldAddr rfl rfl rfl) rfl rfl ?_)
    (first | refine tl_val (wanted_none rfl) (val_load rfl (by repeat (first | exact Has.here | refine Has.there ?_)) (by exact rfl) (by exact rfl) (by exact rfl)) rfl rfl ?_ | refine tl_val (wanted_none rfl) (val_load_agg rfl (by repeat (first | exact Has.here | refine Has.there ?_)) (by exact rfl) (by exact rfl) (by simp only [Nat.reduceAdd, Nat.zero_add, Nat.add_zero, List.set_cons_zero, List.set_cons_succ, List.set_nil, List.drop_succ_cons, List.drop_zero, List.take_succ_cons, List.take_zero, List.take_nil, List.drop_nil, setL, ty22]; exact rfl) (by exact rfl)) rfl rfl ?_)
    (first | refine tl_val (wanted_none rfl) (val_len_slice rfl rfl rfl rfl) rfl rfl ?_ | refine tl_val (wanted_none rfl) (val_len_string rfl rfl rfl rfl) rfl rfl ?_)
    refine tl_val (wanted_none rfl) (val_lss rfl rfl) rfl rfl ?_
    refine tl_val (wanted_none rfl) (val_move rfl) rfl rfl ?_
    refine tl_case_g rfl rfl rfl (fun g => ?_) (fun g => ?_)
    · have hlt : i < q.length := by simpa using g
      obtain ⟨x, hx⟩ := get_some (l := q) h0 hlt
      have hxb := hq x (List.mem_of_getElem? hx)
      (first | refine tl_val (wanted_some rfl rfl rfl) (val_move rfl) rfl rfl ?_ | refine tl_skip (by first | exact unwanted_t rfl rfl rfl | exact unwanted_f rfl rfl rfl | exact unwanted_u rfl rfl rfl) rfl rfl ?_)
      (first | refine tl_val (wanted_some rfl rfl rfl) (val_lss rfl rfl) rfl rfl ?_ | refine tl_skip (by first | exact unwanted_t rfl rfl rfl | exact unwanted_f rfl rfl rfl | exact unwanted_u rfl rfl rfl) rfl rfl ?_)
      (first | refine tl_val (wanted_none rfl) (val_pick_t rfl rfl) rfl rfl ?_ | refine tl_val (wanted_none rfl) (val_pick_f rfl rfl) rfl rfl ?_)
      refine tl_nil ?_
      repeat (first | refine tc_region ?_ | (refine tc_seq ?_; intro K hK) | refine tc_block ?_ | refine tc_exit ?_ | refine tc_ret ?_ | refine tc_skip ?_ | refine tc_cond_t rfl ?_ | refine tc_cond_f rfl ?_ | refine tk_then_n ?_ | refine tk_then_r ?_ | refine tk_then_e ?_ | refine tk_block_n ?_ | refine tk_block_r ?_ | refine tk_block_hit ?_ | refine tk_block_miss rfl ?_ | refine ‹∀ (e : Env) (As : List Atom), TC _ _ _ e As → TK _ _ e As› _ _ ?_)
      refine tc_cond rfl (fun g2 => ?_) (fun g2 => ?_)
      · simp at g2
        repeat (first | refine tc_region ?_ | (refine tc_seq ?_; intro K hK) | refine tc_block ?_ | refine tc_exit ?_ | refine tc_ret ?_ | refine tc_skip ?_ | refine tc_cond_t rfl ?_ | refine tc_cond_f rfl ?_ | refine tk_then_n ?_ | refine tk_then_r ?_ | refine tk_then_e ?_ | refine tk_block_n ?_ | refine tk_block_r ?_ | refine tk_block_hit ?_ | refine tk_block_miss rfl ?_ | refine ‹∀ (e : Env) (As : List Atom), TC _ _ _ e As → TK _ _ e As› _ _ ?_)
        refine tl_val (wanted_none rfl) (val_move rfl) rfl rfl ?_
        (first | refine tl_val (wanted_none rfl) (val_fieldAddr_blk rfl rfl rfl (by simp only [Nat.reduceAdd, Nat.zero_add, Nat.add_zero]; exact rfl)) rfl rfl ?_ | refine tl_val (wanted_none rfl) (val_fieldAddr_elt rfl rfl rfl (by simp only [Nat.reduceAdd, Nat.zero_add, Nat.add_zero]; exact rfl)) rfl rfl ?_ | refine tl_val (wanted_none rfl) (val_fieldAddr rfl rfl rfl) rfl rfl ?_)
        (first | refine tl_val (wanted_none rfl) (val_load rfl (by repeat (first | exact Has.here | refine Has.there ?_)) (by exact rfl) (by exact rfl) (by exact rfl)) rfl rfl ?_ | refine tl_val (wanted_none rfl) (val_load_agg rfl (by repeat (first | exact Has.here | refine Has.there ?_)) (by exact rfl) (by exact rfl) (by simp only [Nat.reduceAdd, Nat.zero_add, Nat.add_zero, List.set_cons_zero, List.set_cons_succ, List.set_nil, List.drop_succ_cons, List.drop_zero, List.take_succ_cons, List.take_zero, List.take_nil, List.drop_nil, setL, ty22]; exact rfl) (by exact rfl)) rfl rfl ?_)
        refine tl_val (wanted_none rfl) (val_move rfl) rfl rfl ?_
        refine tl_val (wanted_none rfl) (val_indexAddr rfl rfl rfl rfl rfl h0 hlt (fun w' _ => hl.some (by omega))) rfl rfl ?_
        (first | refine tl_val (wanted_none rfl) (val_fieldAddr_blk rfl rfl rfl (by simp only [Nat.reduceAdd, Nat.zero_add, Nat.add_zero]; exact rfl)) rfl rfl ?_ | refine tl_val (wanted_none rfl) (val_fieldAddr_elt rfl rfl rfl (by simp only [Nat.reduceAdd, Nat.zero_add, Nat.add_zero]; exact rfl)) rfl rfl ?_ | refine tl_val (wanted_none rfl) (val_fieldAddr rfl rfl rfl) rfl rfl ?_)
        (first | refine tl_val (wanted_none rfl) (val_fieldAddr_blk rfl rfl rfl (by simp only [Nat.reduceAdd, Nat.zero_add, Nat.add_zero]; exact rfl)) rfl rfl ?_ | refine tl_val (wanted_none rfl) (val_fieldAddr_elt rfl rfl rfl (by simp only [Nat.reduceAdd, Nat.zero_add, Nat.add_zero]; exact rfl)) rfl rfl ?_ | refine tl_val (wanted_none rfl) (val_fieldAddr rfl rfl rfl) rfl rfl ?_)
        refine tl_val (wanted_none rfl) (val_load_elt (o := 4) rfl (fun w' hw => hw.rd hl.rd) (getmap hx) rfl rfl rfl) rfl rfl ?_
        (first | refine tl_val (wanted_none rfl) (val_len_slice rfl rfl rfl rfl) rfl rfl ?_ | refine tl_val (wanted_none rfl) (val_len_string rfl rfl rfl rfl) rfl rfl ?_)
        refine tl_val (wanted_none rfl) (val_add rfl rfl (by omega)) rfl rfl ?_
        refine tl_val (wanted_none rfl) (val_assign rfl) rfl rfl ?_
        refine tl_nil ?_
        repeat (first | refine tc_region ?_ | (refine tc_seq ?_; intro K hK) | refine tc_block ?_ | refine tc_exit ?_ | refine tc_ret ?_ | refine tc_skip ?_ | refine tc_cond_t rfl ?_ | refine tc_cond_f rfl ?_ | refine tk_then_n ?_ | refine tk_then_r ?_ | refine tk_then_e ?_ | refine tk_block_n ?_ | refine tk_block_r ?_ | refine tk_block_hit ?_ | refine tk_block_miss rfl ?_ | refine ‹∀ (e : Env) (As : List Atom), TC _ _ _ e As → TK _ _ e As› _ _ ?_)
        repeat (first | refine tc_region ?_ | (refine tc_seq ?_; intro K hK) | refine tc_block ?_ | refine tc_exit ?_ | refine tc_ret ?_ | refine tc_skip ?_ | refine tc_cond_t rfl ?_ | refine tc_cond_f rfl ?_ | refine tk_then_n ?_ | refine tk_then_r ?_ | refine tk_then_e ?_ | refine tk_block_n ?_ | refine tk_block_r ?_ | refine tk_block_hit ?_ | refine tk_block_miss rfl ?_ | refine ‹∀ (e : Env) (As : List Atom), TC _ _ _ e As → TK _ _ e As› _ _ ?_)
        refine tl_val (wanted_none rfl) (val_move rfl) rfl rfl ?_
        refine tl_val (wanted_none rfl) (val_add rfl rfl (by omega)) rfl rfl ?_
        refine tl_val (wanted_none rfl) (val_assign rfl) rfl rfl ?_
        refine tl_nil ?_
        repeat (first | refine tc_region ?_ | (refine tc_seq ?_; intro K hK) | refine tc_block ?_ | refine tc_exit ?_ | refine tc_ret ?_ | refine tc_skip ?_ | refine tc_cond_t rfl ?_ | refine tc_cond_f rfl ?_ | refine tk_then_n ?_ | refine tk_then_r ?_ | refine tk_then_e ?_ | refine tk_block_n ?_ | refine tk_block_r ?_ | refine tk_block_hit ?_ | refine tk_block_miss rfl ?_ | refine ‹∀ (e : Env) (As : List Atom), TC _ _ _ e As → TK _ _ e As› _ _ ?_)
        exact TK.weaken (hKL (i + 1, n + x.1.hits.length) ⟨by simp only; omega, by simp only; omega, by simp only; omega, by simp only; omega, fun j y hj hy => by
          simp only at hj ⊢
          by_cases e : (j : Int) = i
          · have : j = i.toNat := by omega
            subst this
            rw [hx] at hy
            injection hy with hy
            rw [← hy]
            omega
          · have := h4 j y (by omega) hy
            omega⟩ (by simp only; omega)) (by repeat (first | exact Sub.nil | apply Sub.cons rfl)) Ent.refl
      · simp at g2
        repeat (first | refine tc_exit ?_ | refine tc_ret ?_ | refine tc_skip ?_ | refine tc_cond_t rfl ?_ | refine tc_cond_f rfl ?_ | refine tk_then_n ?_ | refine tk_then_r ?_ | refine tk_then_e ?_ | refine tk_block_n ?_ | refine tk_block_r ?_ | refine tk_block_hit ?_ | refine tk_block_miss rfl ?_)
        exact TK.weaken (hJ n ⟨h2, h3, fun h => by omega⟩) (by repeat (first | exact Sub.nil | apply Sub.cons rfl)) Ent.refl
    · have hlt : ¬ i < q.length := by simpa using g
      (first | refine tl_val (wanted_some rfl rfl rfl) (val_move rfl) rfl rfl ?_ | refine tl_skip (by first | exact unwanted_t rfl rfl rfl | exact unwanted_f rfl rfl rfl | exact unwanted_u rfl rfl rfl) rfl rfl ?_)
      (first | refine tl_val (wanted_some rfl rfl rfl) (val_lss rfl rfl) rfl rfl ?_ | refine tl_skip (by first | exact unwanted_t rfl rfl rfl | exact unwanted_f rfl rfl rfl | exact unwanted_u rfl rfl rfl) rfl rfl ?_)
      (first | refine tl_val (wanted_none rfl) (val_pick_t rfl rfl) rfl rfl ?_ | refine tl_val (wanted_none rfl) (val_pick_f rfl rfl) rfl rfl ?_)
      refine tl_nil ?_
      repeat (first | refine tc_region ?_ | (refine tc_seq ?_; intro K hK) | refine tc_block ?_ | refine tc_exit ?_ | refine tc_ret ?_ | refine tc_skip ?_ | refine tc_cond_t rfl ?_ | refine tc_cond_f rfl ?_ | refine tk_then_n ?_ | refine tk_then_r ?_ | refine tk_then_e ?_ | refine tk_block_n ?_ | refine tk_block_r ?_ | refine tk_block_hit ?_ | refine tk_block_miss rfl ?_ | refine ‹∀ (e : Env) (As : List Atom), TC _ _ _ e As → TK _ _ e As› _ _ ?_)
      exact TK.weaken (hJ n ⟨h2, h3, fun _ j x hx => h4 j x (by have := (List.getElem?_eq_some_iff.1 hx).1; omega) hx⟩) (by repeat (first | exact Sub.nil | apply Sub.cons rfl)) Ent.refl
  rintro n1 ⟨k1, k2, k3⟩
  repeat (first | refine tc_region ?_ | (refine tc_seq ?_; intro K hK) | refine tc_block ?_ | refine tc_exit ?_ | refine tc_ret ?_ | refine tc_skip ?_ | refine tc_cond_t rfl ?_ | refine tc_cond_f rfl ?_ | refine tk_then_n ?_ | refine tk_then_r ?_ | refine tk_then_e ?_ | refine tk_block_n ?_ | refine tk_block_r ?_ | refine tk_block_hit ?_ | refine tk_block_miss rfl ?_ | refine ‹∀ (e : Env) (As : List Atom), TC _ _ _ e As → TK _ _ e As› _ _ ?_)
  refine tl_val (wanted_none rfl) (val_assign rfl) rfl rfl ?_
  refine tl_nil ?_
  repeat (first | refine tc_region ?_ | (refine tc_seq ?_; intro K hK) | refine tc_block ?_ | refine tc_exit ?_ | refine tc_ret ?_ | refine tc_skip ?_ | refine tc_cond_t rfl ?_ | refine tc_cond_f rfl ?_ | refine tk_then_n ?_ | refine tk_then_r ?_ | refine tk_then_e ?_ | refine tk_block_n ?_ | refine tk_block_r ?_ | refine tk_block_hit ?_ | refine tk_block_miss rfl ?_ | refine ‹∀ (e : Env) (As : List Atom), TC _ _ _ e As → TK _ _ e As› _ _ ?_)
  refine tc_block_join (σ := Int) (fun n => [(1, .pointer (some ⟨b, 0, none⟩)), (3, .int .i64 n)]) (fun _ => [.blk b [.slice A q.length c, .slice B l.length d] 25]) (fun n => n1 ≤ n ∧ (n < 5000 → ∀ (j : Nat) (x : AQ), l[j]? = some x → (x.2.1.hits.length : Int) ≤ n)) (fun J hJ => ?_) ?_
  · refine tc_loop (σ := Int × Int) (fun s => [(1, .pointer (some ⟨b, 0, none⟩)), (5, .int .i64 s.1), (3, .int .i64 s.2)]) (fun _ => [.blk b [.slice A q.length c, .slice B l.length d] 25]) (fun s => 0 ≤ s.1 ∧ s.1 ≤ l.length ∧ n1 ≤ s.2 ∧ s.2 ≤ 422212465065984 ∧ ∀ (j : Nat) (x : AQ), (j : Int) < s.1 → l[j]? = some x → (x.2.1.hits.length : Int) ≤ s.2) (fun s => (l.length - s.1).toNat) (0, n1) ⟨by simp, by simp, by simp, by simp; omega, fun j x h => by simp at h; omega⟩ (by repeat (first | exact Sub.nil | apply Sub.cons rfl)) Ent.refl ?_
    rintro ⟨i, n⟩ hi KL hKL
    obtain ⟨h0, h1, h2, h3, h4⟩ := hi
    simp only at h0 h1 h2 h3 h4
    repeat (first | refine tc_region ?_ | (refine tc_seq ?_; intro K hK) | refine tc_block ?_ | refine tc_exit ?_ | refine tc_ret ?_ | refine tc_skip ?_ | refine tc_cond_t rfl ?_ | refine tc_cond_f rfl ?_ | refine tk_then_n ?_ | refine tk_then_r ?_ | refine tk_then_e ?_ | refine tk_block_n ?_ | refine tk_block_r ?_ | refine tk_block_hit ?_ | refine tk_block_miss rfl ?_ | refine ‹∀ (e : Env) (As : List Atom), TC _ _ _ e As → TK _ _ e As› _ _ ?_)
    refine tl_val (wanted_none rfl) (val_move rfl) rfl rfl ?_
    (first | refine tl_val (wanted_none rfl) (val_fieldAddr_blk rfl rfl rfl (by simp only [Nat.reduceAdd, Nat.zero_add, Nat.add_zero]; exact rfl)) rfl rfl ?_ | refine tl_val (wanted_none rfl) (val_fieldAddr_elt rfl rfl rfl (by simp only [Nat.reduceAdd, Nat.zero_add, Nat.add_zero]; exact rfl)) rfl rfl ?_ | refine tl_val (wanted_none rfl) (val_fieldAddr rfl rfl rfl) rfl rfl ?_)
    (first | refine tl_val (wanted_none rfl) (val_load rfl (by repeat (first | exact Has.here | refine Has.there ?_)) (by exact rfl) (by exact rfl) (by exact rfl)) rfl rfl ?_ | refine tl_val (wanted_none rfl) (val_load_agg rfl (by repeat (first | exact Has.here | refine Has.there ?_)) (by exact rfl) (by exact rfl) (by simp only [Nat.reduceAdd, Nat.zero_add, Nat.add_zero, List.set_cons_zero, List.set_cons_succ, List.set_nil, List.drop_succ_cons, List.drop_zero, List.take_succ_cons, List.take_zero, List.take_nil, List.drop_nil, setL, ty23]; exact rfl) (by exact rfl)) rfl rfl ?_)
    (first | refine tl_val (wanted_none rfl) (val_len_slice rfl rfl rfl rfl) rfl rfl ?_ | refine tl_val (wanted_none rfl) (val_len_string rfl rfl rfl rfl) rfl rfl ?_)
    refine tl_val (wanted_none rfl) (val_lss rfl rfl) rfl rfl ?_
    refine tl_val (wanted_none rfl) (val_move rfl) rfl rfl ?_
    refine tl_case_g rfl rfl rfl (fun g => ?_) (fun g => ?_)
    · have hlt : i < l.length := by simpa using g
      obtain ⟨x, hx⟩ := get_some (l := l) h0 hlt
      have hxb := ha x (List.mem_of_getElem? hx)
      (first | refine tl_val (wanted_some rfl rfl rfl) (val_move rfl) rfl rfl ?_ | refine tl_skip (by first | exact unwanted_t rfl rfl rfl | exact unwanted_f rfl rfl rfl | exact unwanted_u rfl rfl rfl) rfl rfl ?_)
      (first | refine tl_val (wanted_some rfl rfl rfl) (val_lss rfl rfl) rfl rfl ?_ | refine tl_skip (by first | exact unwanted_t rfl rfl rfl | exact unwanted_f rfl rfl rfl | exact unwanted_u rfl rfl rfl) rfl rfl ?_)
      (first | refine tl_val (wanted_none rfl) (val_pick_t rfl rfl) rfl rfl ?_ | refine tl_val (wanted_none rfl) (val_pick_f rfl rfl) rfl rfl ?_)
      refine tl_nil ?_
      repeat (first | refine tc_region ?_ | (refine tc_seq ?_; intro K hK) | refine tc_block ?_ | refine tc_exit ?_ | refine tc_ret ?_ | refine tc_skip ?_ | refine tc_cond_t rfl ?_ | refine tc_cond_f rfl ?_ | refine tk_then_n ?_ | refine tk_then_r ?_ | refine tk_then_e ?_ | refine tk_block_n ?_ | refine tk_block_r ?_ | refine tk_block_hit ?_ | refine tk_block_miss rfl ?_ | refine ‹∀ (e : Env) (As : List Atom), TC _ _ _ e As → TK _ _ e As› _ _ ?_)
      refine tc_cond rfl (fun g2 => ?_) (fun g2 => ?_)
      · simp at g2
        repeat (first | refine tc_region ?_ | (refine tc_seq ?_; intro K hK) | refine tc_block ?_ | refine tc_exit ?_ | refine tc_ret ?_ | refine tc_skip ?_ | refine tc_cond_t rfl ?_ | refine tc_cond_f rfl ?_ | refine tk_then_n ?_ | refine tk_then_r ?_ | refine tk_then_e ?_ | refine tk_block_n ?_ | refine tk_block_r ?_ | refine tk_block_hit ?_ | refine tk_block_miss rfl ?_ | refine ‹∀ (e : Env) (As : List Atom), TC _ _ _ e As → TK _ _ e As› _ _ ?_)
        refine tl_val (wanted_none rfl) (val_move rfl) rfl rfl ?_
        (first | refine tl_val (wanted_none rfl) (val_fieldAddr_blk rfl rfl rfl (by simp only [Nat.reduceAdd, Nat.zero_add, Nat.add_zero]; exact rfl)) rfl rfl ?_ | refine tl_val (wanted_none rfl) (val_fieldAddr_elt rfl rfl rfl (by simp only [Nat.reduceAdd, Nat.zero_add, Nat.add_zero]; exact rfl)) rfl rfl ?_ | refine tl_val (wanted_none rfl) (val_fieldAddr rfl rfl rfl) rfl rfl ?_)
        (first | refine tl_val (wanted_none rfl) (val_load rfl (by repeat (first | exact Has.here | refine Has.there ?_)) (by exact rfl) (by exact rfl) (by exact rfl)) rfl rfl ?_ | refine tl_val (wanted_none rfl) (val_load_agg rfl (by repeat (first | exact Has.here | refine Has.there ?_)) (by exact rfl) (by exact rfl) (by simp only [Nat.reduceAdd, Nat.zero_add, Nat.add_zero, List.set_cons_zero, List.set_cons_succ, List.set_nil, List.drop_succ_cons, List.drop_zero, List.take_succ_cons, List.take_zero, List.take_nil, List.drop_nil, setL, ty23]; exact rfl) (by exact rfl)) rfl rfl ?_)
        refine tl_val (wanted_none rfl) (val_move rfl) rfl rfl ?_
        refine tl_val (wanted_none rfl) (val_indexAddr rfl rfl rfl rfl rfl h0 hlt (fun w' _ => hm.some (by omega))) rfl rfl ?_
        (first | refine tl_val (wanted_none rfl) (val_fieldAddr_blk rfl rfl rfl (by simp only [Nat.reduceAdd, Nat.zero_add, Nat.add_zero]; exact rfl)) rfl rfl ?_ | refine tl_val (wanted_none rfl) (val_fieldAddr_elt rfl rfl rfl (by simp only [Nat.reduceAdd, Nat.zero_add, Nat.add_zero]; exact rfl)) rfl rfl ?_ | refine tl_val (wanted_none rfl) (val_fieldAddr rfl rfl rfl) rfl rfl ?_)
        (first | refine tl_val (wanted_none rfl) (val_fieldAddr_blk rfl rfl rfl (by simp only [Nat.reduceAdd, Nat.zero_add, Nat.add_zero]; exact rfl)) rfl rfl ?_ | refine tl_val (wanted_none rfl) (val_fieldAddr_elt rfl rfl rfl (by simp only [Nat.reduceAdd, Nat.zero_add, Nat.add_zero]; exact rfl)) rfl rfl ?_ | refine tl_val (wanted_none rfl) (val_fieldAddr rfl rfl rfl) rfl rfl ?_)
        refine tl_val (wanted_none rfl) (val_load_elt (o := 6) rfl (fun w' hw => hw.rd hm.rd) (getmap hx) rfl rfl rfl) rfl rfl ?_
        (first | refine tl_val (wanted_none rfl) (val_len_slice rfl rfl rfl rfl) rfl rfl ?_ | refine tl_val (wanted_none rfl) (val_len_string rfl rfl rfl rfl) rfl rfl ?_)
        refine tl_val (wanted_none rfl) (val_add rfl rfl (by omega)) rfl rfl ?_
        refine tl_val (wanted_none rfl) (val_assign rfl) rfl rfl ?_
        refine tl_nil ?_
        repeat (first | refine tc_region ?_ | (refine tc_seq ?_; intro K hK) | refine tc_block ?_ | refine tc_exit ?_ | refine tc_ret ?_ | refine tc_skip ?_ | refine tc_cond_t rfl ?_ | refine tc_cond_f rfl ?_ | refine tk_then_n ?_ | refine tk_then_r ?_ | refine tk_then_e ?_ | refine tk_block_n ?_ | refine tk_block_r ?_ | refine tk_block_hit ?_ | refine tk_block_miss rfl ?_ | refine ‹∀ (e : Env) (As : List Atom), TC _ _ _ e As → TK _ _ e As› _ _ ?_)
        repeat (first | refine tc_region ?_ | (refine tc_seq ?_; intro K hK) | refine tc_block ?_ | refine tc_exit ?_ | refine tc_ret ?_ | refine tc_skip ?_ | refine tc_cond_t rfl ?_ | refine tc_cond_f rfl ?_ | refine tk_then_n ?_ | refine tk_then_r ?_ | refine tk_then_e ?_ | refine tk_block_n ?_ | refine tk_block_r ?_ | refine tk_block_hit ?_ | refine tk_block_miss rfl ?_ | refine ‹∀ (e : Env) (As : List Atom), TC _ _ _ e As → TK _ _ e As› _ _ ?_)
        refine tl_val (wanted_none rfl) (val_move rfl) rfl rfl ?_
        refine tl_val (wanted_none rfl) (val_add rfl rfl (by omega)) rfl rfl ?_
        refine tl_val (wanted_none rfl) (val_assign rfl) rfl rfl ?_
        refine tl_nil ?_
        repeat (first | refine tc_region ?_ | (refine tc_seq ?_; intro K hK) | refine tc_block ?_ | refine tc_exit ?_ | refine tc_ret ?_ | refine tc_skip ?_ | refine tc_cond_t rfl ?_ | refine tc_cond_f rfl ?_ | refine tk_then_n ?_ | refine tk_then_r ?_ | refine tk_then_e ?_ | refine tk_block_n ?_ | refine tk_block_r ?_ | refine tk_block_hit ?_ | refine tk_block_miss rfl ?_ | refine ‹∀ (e : Env) (As : List Atom), TC _ _ _ e As → TK _ _ e As› _ _ ?_)
        exact TK.weaken (hKL (i + 1, n + x.2.1.hits.length) ⟨by simp only; omega, by simp only; omega, by simp only; omega, by simp only; omega, fun j y hj hy => by
          simp only at hj ⊢
          by_cases e : (j : Int) = i
          · have : j = i.toNat := by omega
            subst this
            rw [hx] at hy
            injection hy with hy
            rw [← hy]
            omega
          · have := h4 j y (by omega) hy
            omega⟩ (by simp only; omega)) (by repeat (first | exact Sub.nil | apply Sub.cons rfl)) Ent.refl
      · simp at g2
        repeat (first | refine tc_exit ?_ | refine tc_ret ?_ | refine tc_skip ?_ | refine tc_cond_t rfl ?_ | refine tc_cond_f rfl ?_ | refine tk_then_n ?_ | refine tk_then_r ?_ | refine tk_then_e ?_ | refine tk_block_n ?_ | refine tk_block_r ?_ | refine tk_block_hit ?_ | refine tk_block_miss rfl ?_)
        exact TK.weaken (hJ n ⟨h2, fun h => by omega⟩) (by repeat (first | exact Sub.nil | apply Sub.cons rfl)) Ent.refl
    · have hlt : ¬ i < l.length := by simpa using g
      (first | refine tl_val (wanted_some rfl rfl rfl) (val_move rfl) rfl rfl ?_ | refine tl_skip (by first | exact unwanted_t rfl rfl rfl | exact unwanted_f rfl rfl rfl | exact unwanted_u rfl rfl rfl) rfl rfl ?_)
      (first | refine tl_val (wanted_some rfl rfl rfl) (val_lss rfl rfl) rfl rfl ?_ | refine tl_skip (by first | exact unwanted_t rfl rfl rfl | exact unwanted_f rfl rfl rfl | exact unwanted_u rfl rfl rfl) rfl rfl ?_)
      (first | refine tl_val (wanted_none rfl) (val_pick_t rfl rfl) rfl rfl ?_ | refine tl_val (wanted_none rfl) (val_pick_f rfl rfl) rfl rfl ?_)
      refine tl_nil ?_
      repeat (first | refine tc_region ?_ | (refine tc_seq ?_; intro K hK) | refine tc_block ?_ | refine tc_exit ?_ | refine tc_ret ?_ | refine tc_skip ?_ | refine tc_cond_t rfl ?_ | refine tc_cond_f rfl ?_ | refine tk_then_n ?_ | refine tk_then_r ?_ | refine tk_then_e ?_ | refine tk_block_n ?_ | refine tk_block_r ?_ | refine tk_block_hit ?_ | refine tk_block_miss rfl ?_ | refine ‹∀ (e : Env) (As : List Atom), TC _ _ _ e As → TK _ _ e As› _ _ ?_)
      exact TK.weaken (hJ n ⟨h2, fun _ j x hx => h4 j x (by have := (List.getElem?_eq_some_iff.1 hx).1; omega) hx⟩) (by repeat (first | exact Sub.nil | apply Sub.cons rfl)) Ent.refl
  rintro n2 ⟨m1, m2⟩
  repeat (first | refine tc_region ?_ | (refine tc_seq ?_; intro K hK) | refine tc_block ?_ | refine tc_exit ?_ | refine tc_ret ?_ | refine tc_skip ?_ | refine tc_cond_t rfl ?_ | refine tc_cond_f rfl ?_ | refine tk_then_n ?_ | refine tk_then_r ?_ | refine tk_then_e ?_ | refine tk_block_n ?_ | refine tk_block_r ?_ | refine tk_block_hit ?_ | refine tk_block_miss rfl ?_ | refine ‹∀ (e : Env) (As : List Atom), TC _ _ _ e As → TK _ _ e As› _ _ ?_)
  refine tl_val (wanted_none rfl) (val_move rfl) rfl rfl ?_
  refine tl_val (wanted_none rfl) (val_gtr rfl rfl) rfl rfl ?_
  refine tl_val (wanted_none rfl) (val_move rfl) rfl rfl ?_
  refine tl_case_g rfl rfl rfl (fun g => ?_) (fun g => ?_)
  · (first | refine tl_val (wanted_some rfl rfl rfl) (val_fieldAddr_blk rfl rfl rfl (by simp only [Nat.reduceAdd, Nat.zero_add, Nat.add_zero]; exact rfl)) rfl rfl ?_ | refine tl_val (wanted_some rfl rfl rfl) (val_fieldAddr_elt rfl rfl rfl (by simp only [Nat.reduceAdd, Nat.zero_add, Nat.add_zero]; exact rfl)) rfl rfl ?_ | refine tl_val (wanted_some rfl rfl rfl) (val_fieldAddr rfl rfl rfl) rfl rfl ?_ | refine tl_skip (by first | exact unwanted_t rfl rfl rfl | exact unwanted_f rfl rfl rfl | exact unwanted_u rfl rfl rfl) rfl rfl ?_)
    (first | refine tl_val (wanted_some rfl rfl rfl) (val_load rfl (by repeat (first | exact Has.here | refine Has.there ?_)) (by exact rfl) (by exact rfl) (by exact rfl)) rfl rfl ?_ | refine tl_val (wanted_some rfl rfl rfl) (val_load_agg rfl (by repeat (first | exact Has.here | refine Has.there ?_)) (by exact rfl) (by exact rfl) (by simp only [Nat.reduceAdd, Nat.zero_add, Nat.add_zero, List.set_cons_zero, List.set_cons_succ, List.set_nil, List.drop_succ_cons, List.drop_zero, List.take_succ_cons, List.take_zero, List.take_nil, List.drop_nil, setL, ty23]; exact rfl) (by exact rfl)) rfl rfl ?_ | refine tl_skip (by first | exact unwanted_t rfl rfl rfl | exact unwanted_f rfl rfl rfl | exact unwanted_u rfl rfl rfl) rfl rfl ?_)
    (first | refine tl_val (wanted_some rfl rfl rfl) (val_len_slice rfl rfl rfl rfl) rfl rfl ?_ | refine tl_val (wanted_some rfl rfl rfl) (val_len_string rfl rfl rfl rfl) rfl rfl ?_ | refine tl_skip (by first | exact unwanted_t rfl rfl rfl | exact unwanted_f rfl rfl rfl | exact unwanted_u rfl rfl rfl) rfl rfl ?_)
    (first | refine tl_val (wanted_some rfl rfl rfl) (val_gtr rfl rfl) rfl rfl ?_ | refine tl_skip (by first | exact unwanted_t rfl rfl rfl | exact unwanted_f rfl rfl rfl | exact unwanted_u rfl rfl rfl) rfl rfl ?_)
    (first | refine tl_val (wanted_none rfl) (val_pick_t rfl rfl) rfl rfl ?_ | refine tl_val (wanted_none rfl) (val_pick_f rfl rfl) rfl rfl ?_)
    refine tl_val (wanted_none rfl) (val_assign rfl) rfl rfl ?_
    refine tl_nil ?_
    repeat (first | refine tc_region ?_ | (refine tc_seq ?_; intro K hK) | refine tc_block ?_ | refine tc_exit ?_ | refine tc_ret ?_ | refine tc_skip ?_ | refine tc_cond_t rfl ?_ | refine tc_cond_f rfl ?_ | refine tk_then_n ?_ | refine tk_then_r ?_ | refine tk_then_e ?_ | refine tk_block_n ?_ | refine tk_block_r ?_ | refine tk_block_hit ?_ | refine tk_block_miss rfl ?_ | refine ‹∀ (e : Env) (As : List Atom), TC _ _ _ e As → TK _ _ e As› _ _ ?_)
    (first | apply tk_ret Try.results4 | apply tk_end Try.results4); (repeat (first | exact ResOK.nil | apply ResOK.tmp rfl | apply ResOK.agg rfl (by repeat (first | exact Has.here | refine Has.there ?_)) (by exact rfl) (by exact rfl) (by exact rfl) | apply ResOK.scalar rfl (by repeat (first | exact Has.here | refine Has.there ?_)) (by exact rfl) (by exact rfl))); intro w hw; refine ⟨_, _, rfl, ?_, hw⟩; try dsimp only [retV]
    exact ⟨_, rfl, fun h => by cases h⟩
  · (first | refine tl_val (wanted_some rfl rfl rfl) (val_fieldAddr_blk rfl rfl rfl (by simp only [Nat.reduceAdd, Nat.zero_add, Nat.add_zero]; exact rfl)) rfl rfl ?_ | refine tl_val (wanted_some rfl rfl rfl) (val_fieldAddr_elt rfl rfl rfl (by simp only [Nat.reduceAdd, Nat.zero_add, Nat.add_zero]; exact rfl)) rfl rfl ?_ | refine tl_val (wanted_some rfl rfl rfl) (val_fieldAddr rfl rfl rfl) rfl rfl ?_ | refine tl_skip (by first | exact unwanted_t rfl rfl rfl | exact unwanted_f rfl rfl rfl | exact unwanted_u rfl rfl rfl) rfl rfl ?_)
    (first | refine tl_val (wanted_some rfl rfl rfl) (val_load rfl (by repeat (first | exact Has.here | refine Has.there ?_)) (by exact rfl) (by exact rfl) (by exact rfl)) rfl rfl ?_ | refine tl_val (wanted_some rfl rfl rfl) (val_load_agg rfl (by repeat (first | exact Has.here | refine Has.there ?_)) (by exact rfl) (by exact rfl) (by simp only [Nat.reduceAdd, Nat.zero_add, Nat.add_zero, List.set_cons_zero, List.set_cons_succ, List.set_nil, List.drop_succ_cons, List.drop_zero, List.take_succ_cons, List.take_zero, List.take_nil, List.drop_nil, setL, ty23]; exact rfl) (by exact rfl)) rfl rfl ?_ | refine tl_skip (by first | exact unwanted_t rfl rfl rfl | exact unwanted_f rfl rfl rfl | exact unwanted_u rfl rfl rfl) rfl rfl ?_)
    (first | refine tl_val (wanted_some rfl rfl rfl) (val_len_slice rfl rfl rfl rfl) rfl rfl ?_ | refine tl_val (wanted_some rfl rfl rfl) (val_len_string rfl rfl rfl rfl) rfl rfl ?_ | refine tl_skip (by first | exact unwanted_t rfl rfl rfl | exact unwanted_f rfl rfl rfl | exact unwanted_u rfl rfl rfl) rfl rfl ?_)
    (first | refine tl_val (wanted_some rfl rfl rfl) (val_gtr rfl rfl) rfl rfl ?_ | refine tl_skip (by first | exact unwanted_t rfl rfl rfl | exact unwanted_f rfl rfl rfl | exact unwanted_u rfl rfl rfl) rfl rfl ?_)
    (first | refine tl_val (wanted_none rfl) (val_pick_t rfl rfl) rfl rfl ?_ | refine tl_val (wanted_none rfl) (val_pick_f rfl rfl) rfl rfl ?_)
    refine tl_val (wanted_none rfl) (val_assign rfl) rfl rfl ?_
    refine tl_nil ?_
    repeat (first | refine tc_region ?_ | (refine tc_seq ?_; intro K hK) | refine tc_block ?_ | refine tc_exit ?_ | refine tc_ret ?_ | refine tc_skip ?_ | refine tc_cond_t rfl ?_ | refine tc_cond_f rfl ?_ | refine tk_then_n ?_ | refine tk_then_r ?_ | refine tk_then_e ?_ | refine tk_block_n ?_ | refine tk_block_r ?_ | refine tk_block_hit ?_ | refine tk_block_miss rfl ?_ | refine ‹∀ (e : Env) (As : List Atom), TC _ _ _ e As → TK _ _ e As› _ _ ?_)
    (first | apply tk_ret Try.results4 | apply tk_end Try.results4); (repeat (first | exact ResOK.nil | apply ResOK.tmp rfl | apply ResOK.agg rfl (by repeat (first | exact Has.here | refine Has.there ?_)) (by exact rfl) (by exact rfl) (by exact rfl) | apply ResOK.scalar rfl (by repeat (first | exact Has.here | refine Has.there ?_)) (by exact rfl) (by exact rfl))); intro w hw; refine ⟨_, _, rfl, ?_, hw⟩; try dsimp only [retV]
    have g' : n2 ≤ 500 := by simpa using g
    refine ⟨_, rfl, fun _ => ⟨by omega, fun x hx => ?_, fun x hx => ?_⟩⟩
    · obtain ⟨j, hj, rfl⟩ := List.mem_iff_getElem.1 hx
      have := k3 (by omega) j q[j] (List.getElem?_eq_getElem hj)
      omega
    · obtain ⟨j, hj, rfl⟩ := List.mem_iff_getElem.1 hx
      have := m2 (by omega) j l[j] (List.getElem?_eq_getElem hj)
      omega
theorem spoilHits_m (w : World) : Meets Try.prog 41 [.slice none 0 0] w (fpAll []) (fun _ As => As = []) := by
  refine enter tysOK Try.func41 rfl Try.ntmps41 rfl (HeapOK.start w) ?_
  repeat (first | refine tc_region ?_ | (refine tc_seq ?_; intro K hK) | refine tc_block ?_ | refine tc_exit ?_ | refine tc_ret ?_ | refine tc_skip ?_ | refine tc_cond_t rfl ?_ | refine tc_cond_f rfl ?_ | refine tk_then_n ?_ | refine tk_then_r ?_ | refine tk_then_e ?_ | refine tk_block_n ?_ | refine tk_block_r ?_ | refine tk_block_hit ?_ | refine tk_block_miss rfl ?_ | refine ‹∀ (e : Env) (As : List Atom), TC _ _ _ e As → TK _ _ e As› _ _ ?_)
  refine tl_val (wanted_none rfl) (val_assign rfl) rfl rfl ?_
  refine tl_nil ?_
  repeat (first | refine tc_region ?_ | (refine tc_seq ?_; intro K hK) | refine tc_block ?_ | refine tc_exit ?_ | refine tc_ret ?_ | refine tc_skip ?_ | refine tc_cond_t rfl ?_ | refine tc_cond_f rfl ?_ | refine tk_then_n ?_ | refine tk_then_r ?_ | refine tk_then_e ?_ | refine tk_block_n ?_ | refine tk_block_r ?_ | refine tk_block_hit ?_ | refine tk_block_miss rfl ?_ | refine ‹∀ (e : Env) (As : List Atom), TC _ _ _ e As → TK _ _ e As› _ _ ?_)
  refine tc_loop (σ := Unit) (fun _ => [(2, .int .i64 0), (0, .slice none 0 0)]) (fun _ => []) (fun _ => True) (fun _ => 0) () trivial (by repeat (first | exact Sub.nil | apply Sub.cons rfl)) Ent.refl ?_
  intro _ _ KL hKL
  repeat (first | refine tc_region ?_ | (refine tc_seq ?_; intro K hK) | refine tc_block ?_ | refine tc_exit ?_ | refine tc_ret ?_ | refine tc_skip ?_ | refine tc_cond_t rfl ?_ | refine tc_cond_f rfl ?_ | refine tk_then_n ?_ | refine tk_then_r ?_ | refine tk_then_e ?_ | refine tk_block_n ?_ | refine tk_block_r ?_ | refine tk_block_hit ?_ | refine tk_block_miss rfl ?_ | refine ‹∀ (e : Env) (As : List Atom), TC _ _ _ e As → TK _ _ e As› _ _ ?_)
  repeat (first | refine tc_region ?_ | (refine tc_seq ?_; intro K hK) | refine tc_block ?_ | refine tc_exit ?_ | refine tc_ret ?_ | refine tc_skip ?_ | refine tc_cond_t rfl ?_ | refine tc_cond_f rfl ?_ | refine tk_then_n ?_ | refine tk_then_r ?_ | refine tk_then_e ?_ | refine tk_block_n ?_ | refine tk_block_r ?_ | refine tk_block_hit ?_ | refine tk_block_miss rfl ?_ | refine ‹∀ (e : Env) (As : List Atom), TC _ _ _ e As → TK _ _ e As› _ _ ?_)
  refine tl_val (wanted_none rfl) (val_move rfl) rfl rfl ?_
  refine tl_val (wanted_none rfl) (val_move rfl) rfl rfl ?_
  (first | refine tl_val (wanted_none rfl) (val_len_slice rfl rfl rfl rfl) rfl rfl ?_ | refine tl_val (wanted_none rfl) (val_len_string rfl rfl rfl rfl) rfl rfl ?_)
  refine tl_val (wanted_none rfl) (val_lss rfl rfl) rfl rfl ?_
  refine tl_nil ?_
  repeat (first | refine tc_region ?_ | (refine tc_seq ?_; intro K hK) | refine tc_block ?_ | refine tc_exit ?_ | refine tc_ret ?_ | refine tc_skip ?_ | refine tc_cond_t rfl ?_ | refine tc_cond_f rfl ?_ | refine tk_then_n ?_ | refine tk_then_r ?_ | refine tk_then_e ?_ | refine tk_block_n ?_ | refine tk_block_r ?_ | refine tk_block_hit ?_ | refine tk_block_miss rfl ?_ | refine ‹∀ (e : Env) (As : List Atom), TC _ _ _ e As → TK _ _ e As› _ _ ?_)
  refine tl_ent (Ent.nilrow 74 2) ?_
  refine tl_val (wanted_none rfl) (val_move rfl) rfl rfl ?_
  refine tl_val (wanted_none rfl) (val_build rfl (by exact rfl) (by exact rfl) (by exact rfl)) rfl rfl ?_
  (refine tl_eff (wanted_none rfl) (eff_buildSlice1 rfl (by simp only [Value.cells, List.toList_toArray]; exact rfl) rfl rfl rfl rfl rfl rfl) rfl rfl ?_; rintro _ _ ⟨b, rfl, rfl⟩)
  (refine tl_eff (wanted_none rfl) (eff_append1 rfl rfl rfl rfl rfl rfl rfl rfl (by repeat (first | exact Rem.here | apply Rem.there)) (by repeat (first | exact Has.here | refine Has.there ?_)) rfl rfl (by simp [ty74])) rfl rfl ?_; rintro _ _ ⟨Ax, cx, rfl, rfl⟩)
  refine tl_val (wanted_none rfl) (val_assign rfl) rfl rfl ?_
  refine tl_nil ?_
  repeat (first | refine tc_region ?_ | (refine tc_seq ?_; intro K hK) | refine tc_block ?_ | refine tc_exit ?_ | refine tc_ret ?_ | refine tc_skip ?_ | refine tc_cond_t rfl ?_ | refine tc_cond_f rfl ?_ | refine tk_then_n ?_ | refine tk_then_r ?_ | refine tk_then_e ?_ | refine tk_block_n ?_ | refine tk_block_r ?_ | refine tk_block_hit ?_ | refine tk_block_miss rfl ?_ | refine ‹∀ (e : Env) (As : List Atom), TC _ _ _ e As → TK _ _ e As› _ _ ?_)
  (first | apply tk_ret Try.results41 | apply tk_end Try.results41); (repeat (first | exact ResOK.nil | apply ResOK.tmp rfl | apply ResOK.agg rfl (by repeat (first | exact Has.here | refine Has.there ?_)) (by exact rfl) (by exact rfl) (by exact rfl) | apply ResOK.scalar rfl (by repeat (first | exact Has.here | refine Has.there ?_)) (by exact rfl) (by exact rfl))); intro w hw; refine ⟨_, [], rfl, ?_, hw.pick (by repeat (first | exact Pick.nil | exact Rem.here | apply Rem.there | apply Pick.take))⟩; try dsimp only [retV]
end Go.Proofs.Ytefljdelmeifhaa

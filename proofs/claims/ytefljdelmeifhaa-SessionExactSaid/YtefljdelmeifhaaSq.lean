/-
  Sessions spoilt; a session that wakes.
-/
import Derived.Test.YtefljdelmeifhaaSp
import Derived.Test.YtefljdelmeifhaaSn
import Derived.Test.YtefljdelmeifhaaSo
set_option linter.unusedVariables false
set_option linter.unusedSimpArgs false
set_option maxRecDepth 100000
namespace Go.Proofs.Ytefljdelmeifhaa
open Go.Eng
theorem spoil_m (q : List SQ) (A : Option Addr) (c : Nat) (w : World) (hw0 : HeapOK w (fpAll [.row (.slice A q.length c) 56 6 (q.map enc)]) [.row (.slice A q.length c) 56 6 (q.map enc)] w) (hn : nilH q) (hb : bare q) (hl : q.length ≤ 1000) :
    Meets Try.prog 22 [.slice A q.length c] w (fpAll [.row (.slice A q.length c) 56 6 (q.map enc)]) (fun _ As => As = []) := by
  refine enter tysOK Try.func22 rfl Try.ntmps22 rfl hw0 ?_
  repeat (first | refine tc_region ?_ | (refine tc_seq ?_; intro K hK) | refine tc_block ?_ | refine tc_exit ?_ | refine tc_ret ?_ | refine tc_skip ?_ | refine tc_cond_t rfl ?_ | refine tc_cond_f rfl ?_ | refine tk_then_n ?_ | refine tk_then_r ?_ | refine tk_then_e ?_ | refine tk_block_n ?_ | refine tk_block_r ?_ | refine tk_block_hit ?_ | refine tk_block_miss rfl ?_ | refine ‹∀ (e : Env) (As : List Atom), TC _ _ _ e As → TK _ _ e As› _ _ ?_)
  refine tl_val (wanted_none rfl) (val_assign rfl) rfl rfl ?_
  refine tl_nil ?_
  repeat (first | refine tc_region ?_ | (refine tc_seq ?_; intro K hK) | refine tc_block ?_ | refine tc_exit ?_ | refine tc_ret ?_ | refine tc_skip ?_ | refine tc_cond_t rfl ?_ | refine tc_cond_f rfl ?_ | refine tk_then_n ?_ | refine tk_then_r ?_ | refine tk_then_e ?_ | refine tk_block_n ?_ | refine tk_block_r ?_ | refine tk_block_hit ?_ | refine tk_block_miss rfl ?_ | refine ‹∀ (e : Env) (As : List Atom), TC _ _ _ e As → TK _ _ e As› _ _ ?_)
  refine tc_block_join (σ := List SQ) (fun q' => [(0, .slice A q.length c)]) (fun q' => [.row (.slice A q.length c) 56 6 (q'.map enc)]) (fun q' => q'.length = q.length) (fun J hJ => ?_) ?_
  · refine tc_loop (σ := Int × List SQ) (fun s => [(2, .int .i64 s.1), (0, .slice A q.length c)]) (fun s => [.row (.slice A q.length c) 56 6 (s.2.map enc)]) (fun s => 0 ≤ s.1 ∧ s.1 ≤ q.length ∧ s.2.length = q.length ∧ nilH s.2 ∧ bare s.2) (fun s => (q.length - s.1).toNat) (0, q) ⟨by simp, by simp, rfl, hn, hb⟩ (by repeat (first | exact Sub.nil | apply Sub.cons rfl)) Ent.refl ?_
    rintro ⟨i, q'⟩ hi KL hKL
    obtain ⟨h0, h1, h2, h3, h4⟩ := hi
    simp only at h0 h1 h2 h3 h4
    repeat (first | refine tc_region ?_ | (refine tc_seq ?_; intro K hK) | refine tc_block ?_ | refine tc_exit ?_ | refine tc_ret ?_ | refine tc_skip ?_ | refine tc_cond_t rfl ?_ | refine tc_cond_f rfl ?_ | refine tk_then_n ?_ | refine tk_then_r ?_ | refine tk_then_e ?_ | refine tk_block_n ?_ | refine tk_block_r ?_ | refine tk_block_hit ?_ | refine tk_block_miss rfl ?_ | refine ‹∀ (e : Env) (As : List Atom), TC _ _ _ e As → TK _ _ e As› _ _ ?_)
    refine tl_val (wanted_none rfl) (val_move rfl) rfl rfl ?_
    refine tl_val (wanted_none rfl) (val_move rfl) rfl rfl ?_
    (first | refine tl_val (wanted_none rfl) (val_len_slice rfl rfl rfl rfl) rfl rfl ?_ | refine tl_val (wanted_none rfl) (val_len_string rfl rfl rfl rfl) rfl rfl ?_)
    refine tl_val (wanted_none rfl) (val_lss rfl rfl) rfl rfl ?_
    refine tl_nil ?_
    repeat (first | refine tc_region ?_ | (refine tc_seq ?_; intro K hK) | refine tc_block ?_ | refine tc_exit ?_ | refine tc_ret ?_ | refine tc_skip ?_ | refine tc_cond_t rfl ?_ | refine tc_cond_f rfl ?_ | refine tk_then_n ?_ | refine tk_then_r ?_ | refine tk_then_e ?_ | refine tk_block_n ?_ | refine tk_block_r ?_ | refine tk_block_hit ?_ | refine tk_block_miss rfl ?_ | refine ‹∀ (e : Env) (As : List Atom), TC _ _ _ e As → TK _ _ e As› _ _ ?_)
    refine tc_cond rfl (fun hc => ?_) (fun hc => ?_)
    · have hlt : i < q.length := by simpa using hc
      obtain ⟨x, hx⟩ := get_some (l := q') h0 (by omega)
      have hxm := List.mem_of_getElem? hx
      have hv4 : (enc x)[4]? = some (.slice none 0 0) := by
        simp [enc, h3 x hxm, h4 x hxm]
      repeat (first | refine tc_region ?_ | (refine tc_seq ?_; intro K hK) | refine tc_block ?_ | refine tc_exit ?_ | refine tc_ret ?_ | refine tc_skip ?_ | refine tc_cond_t rfl ?_ | refine tc_cond_f rfl ?_ | refine tk_then_n ?_ | refine tk_then_r ?_ | refine tk_then_e ?_ | refine tk_block_n ?_ | refine tk_block_r ?_ | refine tk_block_hit ?_ | refine tk_block_miss rfl ?_ | refine ‹∀ (e : Env) (As : List Atom), TC _ _ _ e As → TK _ _ e As› _ _ ?_)
      repeat (first | refine tc_region ?_ | (refine tc_seq ?_; intro K hK) | refine tc_block ?_ | refine tc_exit ?_ | refine tc_ret ?_ | refine tc_skip ?_ | refine tc_cond_t rfl ?_ | refine tc_cond_f rfl ?_ | refine tk_then_n ?_ | refine tk_then_r ?_ | refine tk_then_e ?_ | refine tk_block_n ?_ | refine tk_block_r ?_ | refine tk_block_hit ?_ | refine tk_block_miss rfl ?_ | refine ‹∀ (e : Env) (As : List Atom), TC _ _ _ e As → TK _ _ e As› _ _ ?_)
      refine tl_val (wanted_none rfl) (val_move rfl) rfl rfl ?_
      refine tl_val (wanted_none rfl) (val_move rfl) rfl rfl ?_
      refine tl_val (wanted_none rfl) (val_indexAddr rfl rfl rfl rfl rfl h0 (by omega) (fun w' hw => row_some hw (by repeat (first | exact Has.here | refine Has.there ?_)) (by simp; omega))) rfl rfl ?_
      (first | refine tl_val (wanted_none rfl) (val_fieldAddr_blk rfl rfl rfl (by simp only [Nat.reduceAdd, Nat.zero_add, Nat.add_zero]; exact rfl)) rfl rfl ?_ | refine tl_val (wanted_none rfl) (val_fieldAddr_elt rfl rfl rfl (by simp only [Nat.reduceAdd, Nat.zero_add, Nat.add_zero]; exact rfl)) rfl rfl ?_ | refine tl_val (wanted_none rfl) (val_fieldAddr rfl rfl rfl) rfl rfl ?_)
      (first | refine tl_val (wanted_none rfl) (val_fieldAddr_blk rfl rfl rfl (by simp only [Nat.reduceAdd, Nat.zero_add, Nat.add_zero]; exact rfl)) rfl rfl ?_ | refine tl_val (wanted_none rfl) (val_fieldAddr_elt rfl rfl rfl (by simp only [Nat.reduceAdd, Nat.zero_add, Nat.add_zero]; exact rfl)) rfl rfl ?_ | refine tl_val (wanted_none rfl) (val_fieldAddr rfl rfl rfl) rfl rfl ?_)
      refine tl_val (wanted_none rfl) (val_load_elt (o := 4) rfl (fun w' hw => row_rd' hw (by repeat (first | exact Has.here | refine Has.there ?_))) (getmap hx) rfl rfl hv4) rfl rfl ?_
      (refine tl_eff (wanted_none rfl) (eff_call_at rfl rfl ok41 Pick.nil (fun w hw => spoilHits_m w)) rfl rfl ?_; rintro _ _ ⟨_, rfl, rfl⟩; simp only [List.cons_append, List.nil_append])
      refine tl_nil ?_
      repeat (first | refine tc_region ?_ | (refine tc_seq ?_; intro K hK) | refine tc_block ?_ | refine tc_exit ?_ | refine tc_ret ?_ | refine tc_skip ?_ | refine tc_cond_t rfl ?_ | refine tc_cond_f rfl ?_ | refine tk_then_n ?_ | refine tk_then_r ?_ | refine tk_then_e ?_ | refine tk_block_n ?_ | refine tk_block_r ?_ | refine tk_block_hit ?_ | refine tk_block_miss rfl ?_ | refine ‹∀ (e : Env) (As : List Atom), TC _ _ _ e As → TK _ _ e As› _ _ ?_)
      repeat (first | refine tc_region ?_ | (refine tc_seq ?_; intro K hK) | refine tc_block ?_ | refine tc_exit ?_ | refine tc_ret ?_ | refine tc_skip ?_ | refine tc_cond_t rfl ?_ | refine tc_cond_f rfl ?_ | refine tk_then_n ?_ | refine tk_then_r ?_ | refine tk_then_e ?_ | refine tk_block_n ?_ | refine tk_block_r ?_ | refine tk_block_hit ?_ | refine tk_block_miss rfl ?_ | refine ‹∀ (e : Env) (As : List Atom), TC _ _ _ e As → TK _ _ e As› _ _ ?_)
      refine tl_val (wanted_none rfl) (val_move rfl) rfl rfl ?_
      refine tl_val (wanted_none rfl) (val_move rfl) rfl rfl ?_
      refine tl_val (wanted_none rfl) (val_build rfl (by exact rfl) (by exact rfl) (by exact rfl)) rfl rfl ?_
      refine tl_val (wanted_none rfl) (val_indexAddr rfl rfl rfl rfl rfl h0 (by omega) (fun w' hw => row_some hw (by repeat (first | exact Has.here | refine Has.there ?_)) (by simp; omega))) rfl rfl ?_
      (refine tl_eff_n (wanted_none rfl) (eff_store_elt0 rfl rfl rfl rfl rfl rfl (by repeat (first | exact Rem.here | apply Rem.there)) (getmap hx) rfl) rfl ?_; rintro _ _ rfl)
      refine tl_nil ?_
      repeat (first | refine tc_region ?_ | (refine tc_seq ?_; intro K hK) | refine tc_block ?_ | refine tc_exit ?_ | refine tc_ret ?_ | refine tc_skip ?_ | refine tc_cond_t rfl ?_ | refine tc_cond_f rfl ?_ | refine tk_then_n ?_ | refine tk_then_r ?_ | refine tk_then_e ?_ | refine tk_block_n ?_ | refine tk_block_r ?_ | refine tk_block_hit ?_ | refine tk_block_miss rfl ?_ | refine ‹∀ (e : Env) (As : List Atom), TC _ _ _ e As → TK _ _ e As› _ _ ?_)
      repeat (first | refine tc_region ?_ | (refine tc_seq ?_; intro K hK) | refine tc_block ?_ | refine tc_exit ?_ | refine tc_ret ?_ | refine tc_skip ?_ | refine tc_cond_t rfl ?_ | refine tc_cond_f rfl ?_ | refine tk_then_n ?_ | refine tk_then_r ?_ | refine tk_then_e ?_ | refine tk_block_n ?_ | refine tk_block_r ?_ | refine tk_block_hit ?_ | refine tk_block_miss rfl ?_ | refine ‹∀ (e : Env) (As : List Atom), TC _ _ _ e As → TK _ _ e As› _ _ ?_)
      refine tl_val (wanted_none rfl) (val_move rfl) rfl rfl ?_
      refine tl_val (wanted_none rfl) (val_add rfl rfl (by omega)) rfl rfl ?_
      refine tl_val (wanted_none rfl) (val_assign rfl) rfl rfl ?_
      refine tl_nil ?_
      repeat (first | refine tc_region ?_ | (refine tc_seq ?_; intro K hK) | refine tc_block ?_ | refine tc_exit ?_ | refine tc_ret ?_ | refine tc_skip ?_ | refine tc_cond_t rfl ?_ | refine tc_cond_f rfl ?_ | refine tk_then_n ?_ | refine tk_then_r ?_ | refine tk_then_e ?_ | refine tk_block_n ?_ | refine tk_block_r ?_ | refine tk_block_hit ?_ | refine tk_block_miss rfl ?_ | refine ‹∀ (e : Env) (As : List Atom), TC _ _ _ e As → TK _ _ e As› _ _ ?_)
      refine tk_ent (Bs := [.row (.slice A q.length c) 56 6 ((q'.set i.toNat (⟨-9, 0, 0, 0, [], 0⟩, none, 0)).map enc)]) (.mk fun w hw => by rw [List.map_set]; exact hw.pick (by repeat (first | exact Pick.nil | exact Rem.here | apply Rem.there | apply Pick.take))) ?_
      refine TK.weaken (hKL (i + 1, q'.set i.toNat (⟨-9, 0, 0, 0, [], 0⟩, none, 0)) ⟨by simp only; omega, by simp only; omega, by simp [h2], fun y hy => ?_, fun y hy => ?_⟩ (by simp only; omega)) (by repeat (first | exact Sub.nil | apply Sub.cons rfl)) Ent.refl
      · rcases List.mem_or_eq_of_mem_set hy with h | h
        · exact h3 y h
        · rw [h]
      · rcases List.mem_or_eq_of_mem_set hy with h | h
        · exact h4 y h
        · rw [h]
    · repeat (first | refine tc_region ?_ | (refine tc_seq ?_; intro K hK) | refine tc_block ?_ | refine tc_exit ?_ | refine tc_ret ?_ | refine tc_skip ?_ | refine tc_cond_t rfl ?_ | refine tc_cond_f rfl ?_ | refine tk_then_n ?_ | refine tk_then_r ?_ | refine tk_then_e ?_ | refine tk_block_n ?_ | refine tk_block_r ?_ | refine tk_block_hit ?_ | refine tk_block_miss rfl ?_ | refine ‹∀ (e : Env) (As : List Atom), TC _ _ _ e As → TK _ _ e As› _ _ ?_)
      exact TK.weaken (hJ q' h2) (by repeat (first | exact Sub.nil | apply Sub.cons rfl)) Ent.refl
  rintro q' hq'
  repeat (first | refine tc_region ?_ | (refine tc_seq ?_; intro K hK) | refine tc_block ?_ | refine tc_exit ?_ | refine tc_ret ?_ | refine tc_skip ?_ | refine tc_cond_t rfl ?_ | refine tc_cond_f rfl ?_ | refine tk_then_n ?_ | refine tk_then_r ?_ | refine tk_then_e ?_ | refine tk_block_n ?_ | refine tk_block_r ?_ | refine tk_block_hit ?_ | refine tk_block_miss rfl ?_ | refine ‹∀ (e : Env) (As : List Atom), TC _ _ _ e As → TK _ _ e As› _ _ ?_)
  refine tl_val (wanted_none rfl) (val_move rfl) rfl rfl ?_
  refine tl_val (wanted_none rfl) (val_build rfl (by exact rfl) (by exact rfl) (by exact rfl)) rfl rfl ?_
  (refine tl_eff (wanted_none rfl) (eff_buildSlice1 rfl (by simp only [Value.cells, List.toList_toArray]; exact rfl) rfl rfl rfl rfl rfl rfl) rfl rfl ?_; rintro _ _ ⟨b, rfl, rfl⟩)
  (refine tl_eff (wanted_none rfl) (eff_append1 rfl rfl rfl rfl rfl rfl rfl rfl (by repeat (first | exact Rem.here | apply Rem.there)) (by repeat (first | exact Has.here | refine Has.there ?_)) rfl rfl (by simp [ty56]; omega)) rfl rfl ?_; rintro _ _ ⟨Ax, cx, rfl, rfl⟩)
  refine tl_val (wanted_none rfl) (val_assign rfl) rfl rfl ?_
  refine tl_nil ?_
  repeat (first | refine tc_region ?_ | (refine tc_seq ?_; intro K hK) | refine tc_block ?_ | refine tc_exit ?_ | refine tc_ret ?_ | refine tc_skip ?_ | refine tc_cond_t rfl ?_ | refine tc_cond_f rfl ?_ | refine tk_then_n ?_ | refine tk_then_r ?_ | refine tk_then_e ?_ | refine tk_block_n ?_ | refine tk_block_r ?_ | refine tk_block_hit ?_ | refine tk_block_miss rfl ?_ | refine ‹∀ (e : Env) (As : List Atom), TC _ _ _ e As → TK _ _ e As› _ _ ?_)
  (first | apply tk_ret Try.results22 | apply tk_end Try.results22); (repeat (first | exact ResOK.nil | apply ResOK.tmp rfl | apply ResOK.agg rfl (by repeat (first | exact Has.here | refine Has.there ?_)) (by exact rfl) (by exact rfl) (by exact rfl) | apply ResOK.scalar rfl (by repeat (first | exact Has.here | refine Has.there ?_)) (by exact rfl) (by exact rfl))); intro w hw; refine ⟨_, [], rfl, ?_, hw.pick (by repeat (first | exact Pick.nil | exact Rem.here | apply Rem.there | apply Pick.take))⟩; try dsimp only [retV]
theorem wakes_m (w : World) : Meets Try.prog 23 [] w (fpAll []) (fun v _ => v = .bool true) := by
  have hO : openF (ss []) 3 = ([newS 3], 0) := by simp [openF, mayB, mayFrom, numB, findI, openS, insS, posI]
  refine enter tysOK Try.func23 rfl Try.ntmps23 rfl (HeapOK.start w) ?_
  repeat (first | refine tc_region ?_ | (refine tc_seq ?_; intro K hK) | refine tc_block ?_ | refine tc_exit ?_ | refine tc_ret ?_ | refine tc_skip ?_ | refine tc_cond_t rfl ?_ | refine tc_cond_f rfl ?_ | refine tk_then_n ?_ | refine tk_then_r ?_ | refine tk_then_e ?_ | refine tk_block_n ?_ | refine tk_block_r ?_ | refine tk_block_hit ?_ | refine tk_block_miss rfl ?_ | refine ‹∀ (e : Env) (As : List Atom), TC _ _ _ e As → TK _ _ e As› _ _ ?_)
  refine tl_val (wanted_none rfl) (val_assign rfl) rfl rfl ?_
  refine tl_nil ?_
  repeat (first | refine tc_region ?_ | (refine tc_seq ?_; intro K hK) | refine tc_block ?_ | refine tc_exit ?_ | refine tc_ret ?_ | refine tc_skip ?_ | refine tc_cond_t rfl ?_ | refine tc_cond_f rfl ?_ | refine tk_then_n ?_ | refine tk_then_r ?_ | refine tk_then_e ?_ | refine tk_block_n ?_ | refine tk_block_r ?_ | refine tk_block_hit ?_ | refine tk_block_miss rfl ?_ | refine ‹∀ (e : Env) (As : List Atom), TC _ _ _ e As → TK _ _ e As› _ _ ?_)
  repeat (first | refine tc_region ?_ | (refine tc_seq ?_; intro K hK) | refine tc_block ?_ | refine tc_exit ?_ | refine tc_ret ?_ | refine tc_skip ?_ | refine tc_cond_t rfl ?_ | refine tc_cond_f rfl ?_ | refine tk_then_n ?_ | refine tk_then_r ?_ | refine tk_then_e ?_ | refine tk_block_n ?_ | refine tk_block_r ?_ | refine tk_block_hit ?_ | refine tk_block_miss rfl ?_ | refine ‹∀ (e : Env) (As : List Atom), TC _ _ _ e As → TK _ _ e As› _ _ ?_)
  (refine tl_eff (wanted_none rfl) (eff_call_at rfl rfl ok21 Pick.nil (fun w hw => openP_m [] none 0 3 w ⟨fun h => by simp at h, by simp, by simp⟩)) rfl rfl ?_; rintro _ _ ⟨_, ⟨q1, A1, c1, hq1, hn1, rfl, rfl⟩, rfl⟩; simp only [List.cons_append, List.nil_append])
  refine tl_val (wanted_none rfl) (val_move rfl) rfl rfl ?_
  refine tl_val (wanted_none rfl) (val_extract rfl (by exact rfl)) rfl rfl ?_
  refine tl_val (wanted_none rfl) (val_extract rfl (by exact rfl)) rfl rfl ?_
  refine tl_val (wanted_none rfl) (val_assign rfl) rfl rfl ?_
  refine tl_val (wanted_none rfl) (val_assign rfl) rfl rfl ?_
  refine tl_nil ?_
  repeat (first | refine tc_region ?_ | (refine tc_seq ?_; intro K hK) | refine tc_block ?_ | refine tc_exit ?_ | refine tc_ret ?_ | refine tc_skip ?_ | refine tc_cond_t rfl ?_ | refine tc_cond_f rfl ?_ | refine tk_then_n ?_ | refine tk_then_r ?_ | refine tk_then_e ?_ | refine tk_block_n ?_ | refine tk_block_r ?_ | refine tk_block_hit ?_ | refine tk_block_miss rfl ?_ | refine ‹∀ (e : Env) (As : List Atom), TC _ _ _ e As → TK _ _ e As› _ _ ?_)
  rw [hO] at hq1
  have hl1 : q1.length = 1 := by simpa using congrArg List.length hq1
  obtain ⟨x, rfl⟩ := List.length_eq_one_iff.1 hl1
  have hx : x.1 = newS 3 := by simpa using hq1
  repeat (first | refine tc_region ?_ | (refine tc_seq ?_; intro K hK) | refine tc_block ?_ | refine tc_exit ?_ | refine tc_ret ?_ | refine tc_skip ?_ | refine tc_cond_t rfl ?_ | refine tc_cond_f rfl ?_ | refine tk_then_n ?_ | refine tk_then_r ?_ | refine tk_then_e ?_ | refine tk_block_n ?_ | refine tk_block_r ?_ | refine tk_block_hit ?_ | refine tk_block_miss rfl ?_ | refine ‹∀ (e : Env) (As : List Atom), TC _ _ _ e As → TK _ _ e As› _ _ ?_)
  refine tl_val (wanted_none rfl) (val_move rfl) rfl rfl ?_
  (refine tl_eff (wanted_none rfl) (eff_call_pure rfl rfl ok7 (fun w hw => lnum_m _ w)) rfl rfl ?_; rintro _ _ ⟨rfl, rfl⟩)
  (first | refine tl_val (wanted_none rfl) (val_eql rfl rfl) rfl rfl ?_ | refine tl_val (wanted_none rfl) (val_str_eql rfl rfl) rfl rfl ?_ | refine tl_val (wanted_none rfl) (val_bool_eql rfl rfl rfl rfl) rfl rfl ?_)
  refine tl_val (wanted_none rfl) (val_move rfl) rfl rfl ?_
  refine tl_case_g rfl rfl rfl (fun g => ?_) (fun g => ?_)
  · (first | refine tl_val (wanted_some rfl rfl rfl) (val_move rfl) rfl rfl ?_ | refine tl_skip (by first | exact unwanted_t rfl rfl rfl | exact unwanted_f rfl rfl rfl | exact unwanted_u rfl rfl rfl) rfl rfl ?_)
    (first | refine tl_val (wanted_some rfl rfl rfl) (val_len_slice rfl rfl rfl rfl) rfl rfl ?_ | refine tl_val (wanted_some rfl rfl rfl) (val_len_string rfl rfl rfl rfl) rfl rfl ?_ | refine tl_skip (by first | exact unwanted_t rfl rfl rfl | exact unwanted_f rfl rfl rfl | exact unwanted_u rfl rfl rfl) rfl rfl ?_)
    (first | refine tl_val (wanted_some rfl rfl rfl) (val_eql rfl rfl) rfl rfl ?_ | refine tl_val (wanted_some rfl rfl rfl) (val_str_eql rfl rfl) rfl rfl ?_ | refine tl_val (wanted_some rfl rfl rfl) (val_bool_eql rfl rfl rfl rfl) rfl rfl ?_ | refine tl_skip (by first | exact unwanted_t rfl rfl rfl | exact unwanted_f rfl rfl rfl | exact unwanted_u rfl rfl rfl) rfl rfl ?_)
    (first | refine tl_val (wanted_none rfl) (val_pick_t rfl rfl) rfl rfl ?_ | refine tl_val (wanted_none rfl) (val_pick_f rfl rfl) rfl rfl ?_)
    refine tl_val (wanted_none rfl) (val_move rfl) rfl rfl ?_
    refine tl_case_g rfl rfl rfl (fun g => ?_) (fun g => ?_)
    · (first | refine tl_val (wanted_some rfl rfl rfl) (val_move rfl) rfl rfl ?_ | refine tl_skip (by first | exact unwanted_t rfl rfl rfl | exact unwanted_f rfl rfl rfl | exact unwanted_u rfl rfl rfl) rfl rfl ?_)
      (first | refine tl_skip (by first | exact unwanted_t rfl rfl rfl | exact unwanted_f rfl rfl rfl | exact unwanted_u rfl rfl rfl) rfl rfl ?_ | refine tl_val (wanted_some rfl rfl rfl) (val_indexAddr rfl rfl rfl rfl rfl (by decide) (by simp) (fun w' hw => row_some hw (by repeat (first | exact Has.here | refine Has.there ?_)) (by simp))) rfl rfl ?_)
      (first | refine tl_val (wanted_some rfl rfl rfl) (val_fieldAddr_blk rfl rfl rfl (by simp only [Nat.reduceAdd, Nat.zero_add, Nat.add_zero]; exact rfl)) rfl rfl ?_ | refine tl_val (wanted_some rfl rfl rfl) (val_fieldAddr_elt rfl rfl rfl (by simp only [Nat.reduceAdd, Nat.zero_add, Nat.add_zero]; exact rfl)) rfl rfl ?_ | refine tl_val (wanted_some rfl rfl rfl) (val_fieldAddr rfl rfl rfl) rfl rfl ?_ | refine tl_skip (by first | exact unwanted_t rfl rfl rfl | exact unwanted_f rfl rfl rfl | exact unwanted_u rfl rfl rfl) rfl rfl ?_)
      (first | refine tl_skip (by first | exact unwanted_t rfl rfl rfl | exact unwanted_f rfl rfl rfl | exact unwanted_u rfl rfl rfl) rfl rfl ?_ | refine tl_val (wanted_some rfl rfl rfl) (val_load_elt0 rfl (fun w' hw => row_rd' hw (by repeat (first | exact Has.here | refine Has.there ?_))) (getmap (x := x) rfl) rfl rfl rfl) rfl rfl ?_)
      (first | refine tl_val (wanted_some rfl rfl rfl) (val_eql rfl rfl) rfl rfl ?_ | refine tl_val (wanted_some rfl rfl rfl) (val_str_eql rfl rfl) rfl rfl ?_ | refine tl_val (wanted_some rfl rfl rfl) (val_bool_eql rfl rfl rfl rfl) rfl rfl ?_ | refine tl_skip (by first | exact unwanted_t rfl rfl rfl | exact unwanted_f rfl rfl rfl | exact unwanted_u rfl rfl rfl) rfl rfl ?_)
      (first | refine tl_val (wanted_none rfl) (val_pick_t rfl rfl) rfl rfl ?_ | refine tl_val (wanted_none rfl) (val_pick_f rfl rfl) rfl rfl ?_)
      refine tl_val (wanted_none rfl) (val_assign rfl) rfl rfl ?_
      refine tl_nil ?_
      repeat (first | refine tc_region ?_ | (refine tc_seq ?_; intro K hK) | refine tc_block ?_ | refine tc_exit ?_ | refine tc_ret ?_ | refine tc_skip ?_ | refine tc_cond_t rfl ?_ | refine tc_cond_f rfl ?_ | refine tk_then_n ?_ | refine tk_then_r ?_ | refine tk_then_e ?_ | refine tk_block_n ?_ | refine tk_block_r ?_ | refine tk_block_hit ?_ | refine tk_block_miss rfl ?_ | refine ‹∀ (e : Env) (As : List Atom), TC _ _ _ e As → TK _ _ e As› _ _ ?_)
      (first | apply tk_ret Try.results23 | apply tk_end Try.results23); (repeat (first | exact ResOK.nil | apply ResOK.tmp rfl | apply ResOK.agg rfl (by repeat (first | exact Has.here | refine Has.there ?_)) (by exact rfl) (by exact rfl) (by exact rfl) | apply ResOK.scalar rfl (by repeat (first | exact Has.here | refine Has.there ?_)) (by exact rfl) (by exact rfl))); intro w hw; refine ⟨_, _, rfl, ?_, hw⟩; try dsimp only [retV]
      simp [hx, newS]
    · simp at g
  · rw [hO] at g
    simp at g
end Go.Proofs.Ytefljdelmeifhaa

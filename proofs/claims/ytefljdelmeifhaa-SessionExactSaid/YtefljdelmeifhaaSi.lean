/-
  A session put in.
-/
import Derived.Test.YtefljdelmeifhaaSh
import Derived.Test.YtefljdelmeifhaaEngN
set_option linter.unusedVariables false
set_option linter.unusedSimpArgs false
set_option maxRecDepth 100000
namespace Go.Proofs.Ytefljdelmeifhaa
open Go.Eng
theorem insert_m (xs : List (List Value)) (y : List Value) (A : Option Addr) (n c b : Nat) (u : TypeId) (i : Int) (w : World) (hw0 : HeapOK w (fpAll [.row (.slice A n c) 56 6 xs]) [.row (.slice A n c) 56 6 xs] w) (h0 : 0 ≤ i) (hi : i ≤ xs.length) (hb : xs.length ≤ 100000) (h1 : ∀ c ∈ xs, allOne c = true) (hy : y.length = 6) (hy1 : allOne y = true) (hv : BlkO w (fpAll [.row (.slice A n c) 56 6 xs]) b y u) :
    Meets Try.prog 40 [.slice A n c, .int .i64 i, .slice (some ⟨b, 0, none⟩) 1 1] w (fpAll [.row (.slice A n c) 56 6 xs]) (fun v As => ∃ A' c', v = .slice A' (xs.take i.toNat ++ y :: xs.drop i.toNat).length c' ∧ As = [.row (.slice A' (xs.take i.toNat ++ y :: xs.drop i.toNat).length c') 56 6 (xs.take i.toNat ++ y :: xs.drop i.toNat)]) := by
  obtain ⟨hn, hcap⟩ := row_cap hw0 Has.here
  have hxs := (hw0.ok _ List.mem_cons_self).2
  subst hn
  have hlen : (xs.take i.toNat ++ y :: xs.drop i.toNat).length = xs.length + 1 := by simp; omega
  refine enter tysOK Try.func40 rfl Try.ntmps40 rfl hw0 ?_
  repeat (first | refine tc_region ?_ | (refine tc_seq ?_; intro K hK) | refine tc_block ?_ | refine tc_exit ?_ | refine tc_ret ?_ | refine tc_skip ?_ | refine tc_cond_t rfl ?_ | refine tc_cond_f rfl ?_ | refine tk_then_n ?_ | refine tk_then_r ?_ | refine tk_then_e ?_ | refine tk_block_n ?_ | refine tk_block_r ?_ | refine tk_block_hit ?_ | refine tk_block_miss rfl ?_ | refine ‹∀ (e : Env) (As : List Atom), TC _ _ _ e As → TK _ _ e As› _ _ ?_)
  refine tl_val (wanted_none rfl) (val_assign rfl) rfl rfl ?_
  refine tl_nil ?_
  repeat (first | refine tc_region ?_ | (refine tc_seq ?_; intro K hK) | refine tc_block ?_ | refine tc_exit ?_ | refine tc_ret ?_ | refine tc_skip ?_ | refine tc_cond_t rfl ?_ | refine tc_cond_f rfl ?_ | refine tk_then_n ?_ | refine tk_then_r ?_ | refine tk_then_e ?_ | refine tk_block_n ?_ | refine tk_block_r ?_ | refine tk_block_hit ?_ | refine tk_block_miss rfl ?_ | refine ‹∀ (e : Env) (As : List Atom), TC _ _ _ e As → TK _ _ e As› _ _ ?_)
  repeat (first | refine tc_region ?_ | (refine tc_seq ?_; intro K hK) | refine tc_block ?_ | refine tc_exit ?_ | refine tc_ret ?_ | refine tc_skip ?_ | refine tc_cond_t rfl ?_ | refine tc_cond_f rfl ?_ | refine tk_then_n ?_ | refine tk_then_r ?_ | refine tk_then_e ?_ | refine tk_block_n ?_ | refine tk_block_r ?_ | refine tk_block_hit ?_ | refine tk_block_miss rfl ?_ | refine ‹∀ (e : Env) (As : List Atom), TC _ _ _ e As → TK _ _ e As› _ _ ?_)
  refine tl_val (wanted_none rfl) (val_move rfl) rfl rfl ?_
  refine tl_val (wanted_none rfl) (val_move rfl) rfl rfl ?_
  refine tl_val (wanted_none rfl) (val_slice_lo rfl rfl rfl rfl rfl h0 hi) rfl rfl ?_
  refine tl_nil ?_
  repeat (first | refine tc_region ?_ | (refine tc_seq ?_; intro K hK) | refine tc_block ?_ | refine tc_exit ?_ | refine tc_ret ?_ | refine tc_skip ?_ | refine tc_cond_t rfl ?_ | refine tc_cond_f rfl ?_ | refine tk_then_n ?_ | refine tk_then_r ?_ | refine tk_then_e ?_ | refine tk_block_n ?_ | refine tk_block_r ?_ | refine tk_block_hit ?_ | refine tk_block_miss rfl ?_ | refine ‹∀ (e : Env) (As : List Atom), TC _ _ _ e As → TK _ _ e As› _ _ ?_)
  repeat (first | refine tc_region ?_ | (refine tc_seq ?_; intro K hK) | refine tc_block ?_ | refine tc_exit ?_ | refine tc_ret ?_ | refine tc_skip ?_ | refine tc_cond_t rfl ?_ | refine tc_cond_f rfl ?_ | refine tk_then_n ?_ | refine tk_then_r ?_ | refine tk_then_e ?_ | refine tk_block_n ?_ | refine tk_block_r ?_ | refine tk_block_hit ?_ | refine tk_block_miss rfl ?_ | refine ‹∀ (e : Env) (As : List Atom), TC _ _ _ e As → TK _ _ e As› _ _ ?_)
  refine tl_val (wanted_none rfl) (val_move rfl) rfl rfl ?_
  (first | refine tl_val (wanted_none rfl) (val_len_slice rfl rfl rfl rfl) rfl rfl ?_ | refine tl_val (wanted_none rfl) (val_len_string rfl rfl rfl rfl) rfl rfl ?_)
  refine tl_val (wanted_none rfl) (val_assign rfl) rfl rfl ?_
  refine tl_nil ?_
  repeat (first | refine tc_region ?_ | (refine tc_seq ?_; intro K hK) | refine tc_block ?_ | refine tc_exit ?_ | refine tc_ret ?_ | refine tc_skip ?_ | refine tc_cond_t rfl ?_ | refine tc_cond_f rfl ?_ | refine tk_then_n ?_ | refine tk_then_r ?_ | refine tk_then_e ?_ | refine tk_block_n ?_ | refine tk_block_r ?_ | refine tk_block_hit ?_ | refine tk_block_miss rfl ?_ | refine ‹∀ (e : Env) (As : List Atom), TC _ _ _ e As → TK _ _ e As› _ _ ?_)
  rw [show ((1 : Nat) : Int) = 1 from rfl]
  repeat (first | refine tc_region ?_ | (refine tc_seq ?_; intro K hK) | refine tc_block ?_ | refine tc_exit ?_ | refine tc_ret ?_ | refine tc_skip ?_ | refine tc_cond_t rfl ?_ | refine tc_cond_f rfl ?_ | refine tk_then_n ?_ | refine tk_then_r ?_ | refine tk_then_e ?_ | refine tk_block_n ?_ | refine tk_block_r ?_ | refine tk_block_hit ?_ | refine tk_block_miss rfl ?_ | refine ‹∀ (e : Env) (As : List Atom), TC _ _ _ e As → TK _ _ e As› _ _ ?_)
  refine tl_val (wanted_none rfl) (val_move rfl) rfl rfl ?_
  (first | refine tl_val (wanted_none rfl) (val_eql rfl rfl) rfl rfl ?_ | refine tl_val (wanted_none rfl) (val_str_eql rfl rfl) rfl rfl ?_ | refine tl_val (wanted_none rfl) (val_bool_eql rfl rfl rfl rfl) rfl rfl ?_)
  refine tl_nil ?_
  repeat (first | refine tc_region ?_ | (refine tc_seq ?_; intro K hK) | refine tc_block ?_ | refine tc_exit ?_ | refine tc_ret ?_ | refine tc_skip ?_ | refine tc_cond_t rfl ?_ | refine tc_cond_f rfl ?_ | refine tk_then_n ?_ | refine tk_then_r ?_ | refine tk_then_e ?_ | refine tk_block_n ?_ | refine tk_block_r ?_ | refine tk_block_hit ?_ | refine tk_block_miss rfl ?_ | refine ‹∀ (e : Env) (As : List Atom), TC _ _ _ e As → TK _ _ e As› _ _ ?_)
  repeat (first | refine tc_region ?_ | (refine tc_seq ?_; intro K hK) | refine tc_block ?_ | refine tc_exit ?_ | refine tc_ret ?_ | refine tc_skip ?_ | refine tc_cond_t rfl ?_ | refine tc_cond_f rfl ?_ | refine tk_then_n ?_ | refine tk_then_r ?_ | refine tk_then_e ?_ | refine tk_block_n ?_ | refine tk_block_r ?_ | refine tk_block_hit ?_ | refine tk_block_miss rfl ?_ | refine ‹∀ (e : Env) (As : List Atom), TC _ _ _ e As → TK _ _ e As› _ _ ?_)
  refine tl_val (wanted_none rfl) (val_move rfl) rfl rfl ?_
  (first | refine tl_val (wanted_none rfl) (val_len_slice rfl rfl rfl rfl) rfl rfl ?_ | refine tl_val (wanted_none rfl) (val_len_string rfl rfl rfl rfl) rfl rfl ?_)
  refine tl_val (wanted_none rfl) (val_assign rfl) rfl rfl ?_
  refine tl_nil ?_
  repeat (first | refine tc_region ?_ | (refine tc_seq ?_; intro K hK) | refine tc_block ?_ | refine tc_exit ?_ | refine tc_ret ?_ | refine tc_skip ?_ | refine tc_cond_t rfl ?_ | refine tc_cond_f rfl ?_ | refine tk_then_n ?_ | refine tk_then_r ?_ | refine tk_then_e ?_ | refine tk_block_n ?_ | refine tk_block_r ?_ | refine tk_block_hit ?_ | refine tk_block_miss rfl ?_ | refine ‹∀ (e : Env) (As : List Atom), TC _ _ _ e As → TK _ _ e As› _ _ ?_)
  repeat (first | refine tc_region ?_ | (refine tc_seq ?_; intro K hK) | refine tc_block ?_ | refine tc_exit ?_ | refine tc_ret ?_ | refine tc_skip ?_ | refine tc_cond_t rfl ?_ | refine tc_cond_f rfl ?_ | refine tk_then_n ?_ | refine tk_then_r ?_ | refine tk_then_e ?_ | refine tk_block_n ?_ | refine tk_block_r ?_ | refine tk_block_hit ?_ | refine tk_block_miss rfl ?_ | refine ‹∀ (e : Env) (As : List Atom), TC _ _ _ e As → TK _ _ e As› _ _ ?_)
  refine tl_val (wanted_none rfl) (val_move rfl) rfl rfl ?_
  refine tl_val (wanted_none rfl) (val_move rfl) rfl rfl ?_
  (first | refine tl_val (wanted_none rfl) (val_eql rfl rfl) rfl rfl ?_ | refine tl_val (wanted_none rfl) (val_str_eql rfl rfl) rfl rfl ?_ | refine tl_val (wanted_none rfl) (val_bool_eql rfl rfl rfl rfl) rfl rfl ?_)
  refine tl_nil ?_
  repeat (first | refine tc_region ?_ | (refine tc_seq ?_; intro K hK) | refine tc_block ?_ | refine tc_exit ?_ | refine tc_ret ?_ | refine tc_skip ?_ | refine tc_cond_t rfl ?_ | refine tc_cond_f rfl ?_ | refine tk_then_n ?_ | refine tk_then_r ?_ | refine tk_then_e ?_ | refine tk_block_n ?_ | refine tk_block_r ?_ | refine tk_block_hit ?_ | refine tk_block_miss rfl ?_ | refine ‹∀ (e : Env) (As : List Atom), TC _ _ _ e As → TK _ _ e As› _ _ ?_)
  refine tc_cond rfl (fun hc => ?_) (fun hc => ?_)
  · have hin : i = xs.length := by simpa using hc
    repeat (first | refine tc_region ?_ | (refine tc_seq ?_; intro K hK) | refine tc_block ?_ | refine tc_exit ?_ | refine tc_ret ?_ | refine tc_skip ?_ | refine tc_cond_t rfl ?_ | refine tc_cond_f rfl ?_ | refine tk_then_n ?_ | refine tk_then_r ?_ | refine tk_then_e ?_ | refine tk_block_n ?_ | refine tk_block_r ?_ | refine tk_block_hit ?_ | refine tk_block_miss rfl ?_ | refine ‹∀ (e : Env) (As : List Atom), TC _ _ _ e As → TK _ _ e As› _ _ ?_)
    repeat (first | refine tc_region ?_ | (refine tc_seq ?_; intro K hK) | refine tc_block ?_ | refine tc_exit ?_ | refine tc_ret ?_ | refine tc_skip ?_ | refine tc_cond_t rfl ?_ | refine tc_cond_f rfl ?_ | refine tk_then_n ?_ | refine tk_then_r ?_ | refine tk_then_e ?_ | refine tk_block_n ?_ | refine tk_block_r ?_ | refine tk_block_hit ?_ | refine tk_block_miss rfl ?_ | refine ‹∀ (e : Env) (As : List Atom), TC _ _ _ e As → TK _ _ e As› _ _ ?_)
    refine tl_val (wanted_none rfl) (val_move rfl) rfl rfl ?_
    refine tl_val (wanted_none rfl) (val_move rfl) rfl rfl ?_
    (refine tl_eff (wanted_none rfl) (eff_append (ys := [y]) rfl rfl rfl rfl rfl rfl rfl rfl (by repeat (first | exact Rem.here | apply Rem.there)) rfl (fun w hw => hv.rd hw hy) (fun c hc => by rw [List.mem_singleton.1 hc]; exact ⟨hy, hy1⟩) (by simp [ty56]; omega) (by simp; omega)) rfl rfl ?_; rintro _ _ ⟨A', c', rfl, rfl⟩)
    refine tl_val (wanted_none rfl) (val_assign rfl) rfl rfl ?_
    refine tl_nil ?_
    repeat (first | refine tc_region ?_ | (refine tc_seq ?_; intro K hK) | refine tc_block ?_ | refine tc_exit ?_ | refine tc_ret ?_ | refine tc_skip ?_ | refine tc_cond_t rfl ?_ | refine tc_cond_f rfl ?_ | refine tk_then_n ?_ | refine tk_then_r ?_ | refine tk_then_e ?_ | refine tk_block_n ?_ | refine tk_block_r ?_ | refine tk_block_hit ?_ | refine tk_block_miss rfl ?_ | refine ‹∀ (e : Env) (As : List Atom), TC _ _ _ e As → TK _ _ e As› _ _ ?_)
    (first | apply tk_ret Try.results40 | apply tk_end Try.results40); (repeat (first | exact ResOK.nil | apply ResOK.tmp rfl | apply ResOK.agg rfl (by repeat (first | exact Has.here | refine Has.there ?_)) (by exact rfl) (by exact rfl) (by exact rfl) | apply ResOK.scalar rfl (by repeat (first | exact Has.here | refine Has.there ?_)) (by exact rfl) (by exact rfl))); intro w hw; refine ⟨_, _, rfl, ?_, hw⟩; try dsimp only [retV]
    have : xs.take i.toNat ++ y :: xs.drop i.toNat = xs ++ [y] := by
      rw [hin, Int.toNat_natCast, List.take_length, List.drop_length]
    rw [this]
    exact ⟨A', c', rfl, rfl⟩
  have hin : i < xs.length := by
    have : ¬ i = xs.length := by simpa using hc
    omega
  obtain ⟨g, rfl⟩ : ∃ g, A = some ⟨g, 0, none⟩ := by
    rcases row_addr hw0 with ⟨_, h, _⟩ | h
    · omega
    · exact h
  repeat (first | refine tc_region ?_ | (refine tc_seq ?_; intro K hK) | refine tc_block ?_ | refine tc_exit ?_ | refine tc_ret ?_ | refine tc_skip ?_ | refine tc_cond_t rfl ?_ | refine tc_cond_f rfl ?_ | refine tk_then_n ?_ | refine tk_then_r ?_ | refine tk_then_e ?_ | refine tk_block_n ?_ | refine tk_block_r ?_ | refine tk_block_hit ?_ | refine tk_block_miss rfl ?_ | refine ‹∀ (e : Env) (As : List Atom), TC _ _ _ e As → TK _ _ e As› _ _ ?_)
  refine tl_val (wanted_none rfl) (val_move rfl) rfl rfl ?_
  refine tl_val (wanted_none rfl) (val_move rfl) rfl rfl ?_
  refine tl_val (wanted_none rfl) (val_add rfl rfl (by omega)) rfl rfl ?_
  refine tl_val (wanted_none rfl) (val_move rfl) rfl rfl ?_
  refine tl_val (wanted_none rfl) (val_cap rfl rfl rfl rfl) rfl rfl ?_
  refine tl_val (wanted_none rfl) (val_gtr rfl rfl) rfl rfl ?_
  refine tl_nil ?_
  repeat (first | refine tc_region ?_ | (refine tc_seq ?_; intro K hK) | refine tc_block ?_ | refine tc_exit ?_ | refine tc_ret ?_ | refine tc_skip ?_ | refine tc_cond_t rfl ?_ | refine tc_cond_f rfl ?_ | refine tk_then_n ?_ | refine tk_then_r ?_ | refine tk_then_e ?_ | refine tk_block_n ?_ | refine tk_block_r ?_ | refine tk_block_hit ?_ | refine tk_block_miss rfl ?_ | refine ‹∀ (e : Env) (As : List Atom), TC _ _ _ e As → TK _ _ e As› _ _ ?_)
  refine tc_cond rfl (fun hc => ?_) (fun hc => ?_)
  · have hgrow : c < xs.length + 1 := by simp at hc; omega
    repeat (first | refine tc_region ?_ | (refine tc_seq ?_; intro K hK) | refine tc_block ?_ | refine tc_exit ?_ | refine tc_ret ?_ | refine tc_skip ?_ | refine tc_cond_t rfl ?_ | refine tc_cond_f rfl ?_ | refine tk_then_n ?_ | refine tk_then_r ?_ | refine tk_then_e ?_ | refine tk_block_n ?_ | refine tk_block_r ?_ | refine tk_block_hit ?_ | refine tk_block_miss rfl ?_ | refine ‹∀ (e : Env) (As : List Atom), TC _ _ _ e As → TK _ _ e As› _ _ ?_)
    refine tl_val (wanted_none rfl) (val_move rfl) rfl rfl ?_
    refine tl_val (wanted_none rfl) (val_move rfl) rfl rfl ?_
    refine tl_val (wanted_none rfl) (val_slice_hi rfl rfl rfl rfl rfl h0 (by omega)) rfl rfl ?_
    refine tl_val (wanted_none rfl) (val_move rfl) rfl rfl ?_
    refine tl_val (wanted_none rfl) (val_move rfl) rfl rfl ?_
    refine tl_val (wanted_none rfl) (val_add rfl rfl (by omega)) rfl rfl ?_
    refine tl_val (wanted_none rfl) (val_move rfl) rfl rfl ?_
    refine tl_val (wanted_none rfl) (val_sub rfl rfl (by omega)) rfl rfl ?_
    have ezm : (xs.length : Int) + 1 - i = ((xs.length + 1 - i.toNat : Nat) : Int) := by omega
    have hrd : ∀ w', HeapOK w (fpAll [.row (.slice (some ⟨g, 0, none⟩) xs.length c) 56 6 xs]) [.row (.slice (some ⟨g, 0, none⟩) xs.length c) 56 6 xs] w' → Rd w' (cutA (some ⟨g, 0, none⟩) 6 c 0) 6 (xs.take i.toNat) := fun w' hw' => by
      rw [cutA_zero fun ad h => by injection h with h; subst h; rfl]
      exact (row_rd (hw'.ok _ List.mem_cons_self)).take _
    (refine tl_eff (wanted_none rfl) (eff_append_zeros (ys := xs.take i.toNat) (m := xs.length + 1 - i.toNat) rfl rfl ezm rfl rfl rfl rfl rfl rfl rfl rfl (by omega) hrd (by simp; omega) (fun c hc => hxs c (List.mem_of_mem_take hc)) (by omega) (by omega) (by simp [ty56]; omega)) rfl rfl ?_; rintro _ _ ⟨g', c', rfl, hc', rfl⟩)
    refine tl_val (wanted_none rfl) (val_assign rfl) rfl rfl ?_
    refine tl_nil ?_
    repeat (first | refine tc_region ?_ | (refine tc_seq ?_; intro K hK) | refine tc_block ?_ | refine tc_exit ?_ | refine tc_ret ?_ | refine tc_skip ?_ | refine tc_cond_t rfl ?_ | refine tc_cond_f rfl ?_ | refine tk_then_n ?_ | refine tk_then_r ?_ | refine tk_then_e ?_ | refine tk_block_n ?_ | refine tk_block_r ?_ | refine tk_block_hit ?_ | refine tk_block_miss rfl ?_ | refine ‹∀ (e : Env) (As : List Atom), TC _ _ _ e As → TK _ _ e As› _ _ ?_)
    have elen : i.toNat + (xs.length + 1 - i.toNat) = xs.length + 1 := by omega
    rw [elen] at hc' ⊢
    repeat (first | refine tc_region ?_ | (refine tc_seq ?_; intro K hK) | refine tc_block ?_ | refine tc_exit ?_ | refine tc_ret ?_ | refine tc_skip ?_ | refine tc_cond_t rfl ?_ | refine tc_cond_f rfl ?_ | refine tk_then_n ?_ | refine tk_then_r ?_ | refine tk_then_e ?_ | refine tk_block_n ?_ | refine tk_block_r ?_ | refine tk_block_hit ?_ | refine tk_block_miss rfl ?_ | refine ‹∀ (e : Env) (As : List Atom), TC _ _ _ e As → TK _ _ e As› _ _ ?_)
    refine tl_val (wanted_none rfl) (val_move rfl) rfl rfl ?_
    refine tl_val (wanted_none rfl) (val_move rfl) rfl rfl ?_
    refine tl_val (wanted_none rfl) (val_slice_lo rfl rfl rfl rfl rfl h0 (by omega)) rfl rfl ?_
    refine tl_val (wanted_none rfl) (val_move rfl) rfl rfl ?_
    (refine tl_eff (wanted_none rfl) (eff_copy (k := i.toNat) (zs := [y]) rfl (by rw [cutA_some (by omega), Nat.zero_add]) rfl rfl rfl rfl rfl (by repeat (first | exact Rem.here | apply Rem.there)) (by simp; omega) (fun w hw => hv.rd hw hy) (fun c hc => by rw [List.mem_singleton.1 hc]; exact ⟨hy, hy1⟩) (by simp; omega) (.inl (by simp))) rfl rfl ?_; rintro _ _ ⟨rfl, rfl⟩)
    refine tl_nil ?_
    repeat (first | refine tc_region ?_ | (refine tc_seq ?_; intro K hK) | refine tc_block ?_ | refine tc_exit ?_ | refine tc_ret ?_ | refine tc_skip ?_ | refine tc_cond_t rfl ?_ | refine tc_cond_f rfl ?_ | refine tk_then_n ?_ | refine tk_then_r ?_ | refine tk_then_e ?_ | refine tk_block_n ?_ | refine tk_block_r ?_ | refine tk_block_hit ?_ | refine tk_block_miss rfl ?_ | refine ‹∀ (e : Env) (As : List Atom), TC _ _ _ e As → TK _ _ e As› _ _ ?_)
    repeat (first | refine tc_region ?_ | (refine tc_seq ?_; intro K hK) | refine tc_block ?_ | refine tc_exit ?_ | refine tc_ret ?_ | refine tc_skip ?_ | refine tc_cond_t rfl ?_ | refine tc_cond_f rfl ?_ | refine tk_then_n ?_ | refine tk_then_r ?_ | refine tk_then_e ?_ | refine tk_block_n ?_ | refine tk_block_r ?_ | refine tk_block_hit ?_ | refine tk_block_miss rfl ?_ | refine ‹∀ (e : Env) (As : List Atom), TC _ _ _ e As → TK _ _ e As› _ _ ?_)
    refine tc_mix [] [0, 1, 2, 3, 4, 5, 6, 7, 8] ([]) mixed (by kernel_rfl) (Ent.pick (by repeat (first | exact Pick.nil | exact Rem.here | apply Rem.there | apply Pick.take))) ?_
    refine tm_val rfl rfl (wanted_none rfl) (val_move rfl) rfl rfl ?_
    refine tm_val rfl rfl (wanted_none rfl) (val_move rfl) rfl rfl ?_
    refine tm_val rfl rfl (wanted_none rfl) (val_move rfl) rfl rfl ?_
    refine tm_val rfl rfl (wanted_none rfl) (val_add rfl rfl (by omega)) rfl rfl ?_
    refine tm_val rfl rfl (wanted_none rfl) (val_slice_lo rfl rfl rfl rfl rfl (by omega) (by omega)) rfl rfl ?_
    refine tm_val rfl rfl (wanted_none rfl) (val_move rfl) rfl rfl ?_
    refine tm_val rfl rfl (wanted_none rfl) (val_move rfl) rfl rfl ?_
    refine tm_val rfl rfl (wanted_none rfl) (val_slice_lo rfl rfl rfl rfl rfl h0 (by omega)) rfl rfl ?_
    (refine tm_eff rfl rfl (wanted_none rfl) (eff_copy (k := (i + 1).toNat) (zs := xs.drop i.toNat) rfl (by rw [cutA_some (by omega), Nat.zero_add]) rfl rfl rfl rfl rfl (by repeat (first | exact Rem.here | apply Rem.there)) (by simp; omega) (fun w hw => (row_rd (hw.ok _ (Has.mem (.there .here)))).drop _ _ (by omega)) (fun c hc => ⟨hxs c (List.mem_of_mem_drop hc), h1 c (List.mem_of_mem_drop hc)⟩) (by rw [ovw_length (by simp; omega)]; simp; omega) (.inl (by rw [cutA_some (by omega)]; simp))) rfl rfl ?_; rintro _ _ ⟨rfl, rfl⟩; refine ⟨(by first | exact fun h => absurd h (by decide) | exact fun _ => Ent.refl | exact fun _ => hent | exact fun _ => Ent.drop hent | exact fun _ => Ent.pick (by repeat (first | exact Pick.nil | exact Rem.here | apply Rem.there | apply Pick.take))), ?_⟩)
    refine tm_nil ?_
    repeat (first | refine tc_region ?_ | (refine tc_seq ?_; intro K hK) | refine tc_block ?_ | refine tc_exit ?_ | refine tc_ret ?_ | refine tc_skip ?_ | refine tc_cond_t rfl ?_ | refine tc_cond_f rfl ?_ | refine tk_then_n ?_ | refine tk_then_r ?_ | refine tk_then_e ?_ | refine tk_block_n ?_ | refine tk_block_r ?_ | refine tk_block_hit ?_ | refine tk_block_miss rfl ?_ | refine ‹∀ (e : Env) (As : List Atom), TC _ _ _ e As → TK _ _ e As› _ _ ?_)
    rw [show (i + 1).toNat = i.toNat + 1 by omega, ins_eq1 _ _ _ _ (by omega) (by simp)]
    repeat (first | refine tc_region ?_ | (refine tc_seq ?_; intro K hK) | refine tc_block ?_ | refine tc_exit ?_ | refine tc_ret ?_ | refine tc_skip ?_ | refine tc_cond_t rfl ?_ | refine tc_cond_f rfl ?_ | refine tk_then_n ?_ | refine tk_then_r ?_ | refine tk_then_e ?_ | refine tk_block_n ?_ | refine tk_block_r ?_ | refine tk_block_hit ?_ | refine tk_block_miss rfl ?_ | refine ‹∀ (e : Env) (As : List Atom), TC _ _ _ e As → TK _ _ e As› _ _ ?_)
    refine tl_val (wanted_none rfl) (val_move rfl) rfl rfl ?_
    refine tl_val (wanted_none rfl) (val_assign rfl) rfl rfl ?_
    refine tl_nil ?_
    repeat (first | refine tc_region ?_ | (refine tc_seq ?_; intro K hK) | refine tc_block ?_ | refine tc_exit ?_ | refine tc_ret ?_ | refine tc_skip ?_ | refine tc_cond_t rfl ?_ | refine tc_cond_f rfl ?_ | refine tk_then_n ?_ | refine tk_then_r ?_ | refine tk_then_e ?_ | refine tk_block_n ?_ | refine tk_block_r ?_ | refine tk_block_hit ?_ | refine tk_block_miss rfl ?_ | refine ‹∀ (e : Env) (As : List Atom), TC _ _ _ e As → TK _ _ e As› _ _ ?_)
    (first | apply tk_ret Try.results40 | apply tk_end Try.results40); (repeat (first | exact ResOK.nil | apply ResOK.tmp rfl | apply ResOK.agg rfl (by repeat (first | exact Has.here | refine Has.there ?_)) (by exact rfl) (by exact rfl) (by exact rfl) | apply ResOK.scalar rfl (by repeat (first | exact Has.here | refine Has.there ?_)) (by exact rfl) (by exact rfl))); intro w hw; refine ⟨_, [.row (.slice (some ⟨g', 0, none⟩) (xs.length + 1) c') 56 6 (xs.take i.toNat ++ y :: xs.drop i.toNat)], rfl, ?_, hw.pick (by repeat (first | exact Pick.nil | exact Rem.here | apply Rem.there | apply Pick.take))⟩; try dsimp only [retV]
    exact ⟨_, _, by rw [hlen], by rw [hlen]⟩
  have hroom : xs.length + 1 ≤ c := by simp at hc; omega
  repeat (first | refine tc_region ?_ | (refine tc_seq ?_; intro K hK) | refine tc_block ?_ | refine tc_exit ?_ | refine tc_ret ?_ | refine tc_skip ?_ | refine tc_cond_t rfl ?_ | refine tc_cond_f rfl ?_ | refine tk_then_n ?_ | refine tk_then_r ?_ | refine tk_then_e ?_ | refine tk_block_n ?_ | refine tk_block_r ?_ | refine tk_block_hit ?_ | refine tk_block_miss rfl ?_ | refine ‹∀ (e : Env) (As : List Atom), TC _ _ _ e As → TK _ _ e As› _ _ ?_)
  refine tl_val (wanted_none rfl) (val_move rfl) rfl rfl ?_
  refine tl_val (wanted_none rfl) (val_move rfl) rfl rfl ?_
  refine tl_val (wanted_none rfl) (val_move rfl) rfl rfl ?_
  refine tl_val (wanted_none rfl) (val_add rfl rfl (by omega)) rfl rfl ?_
  refine tl_val (wanted_none rfl) (val_slice_hi rfl rfl rfl rfl rfl (by omega) (by omega)) rfl rfl ?_
  refine tl_val (wanted_none rfl) (val_assign rfl) rfl rfl ?_
  refine tl_nil ?_
  repeat (first | refine tc_region ?_ | (refine tc_seq ?_; intro K hK) | refine tc_block ?_ | refine tc_exit ?_ | refine tc_ret ?_ | refine tc_skip ?_ | refine tc_cond_t rfl ?_ | refine tc_cond_f rfl ?_ | refine tk_then_n ?_ | refine tk_then_r ?_ | refine tk_then_e ?_ | refine tk_block_n ?_ | refine tk_block_r ?_ | refine tk_block_hit ?_ | refine tk_block_miss rfl ?_ | refine ‹∀ (e : Env) (As : List Atom), TC _ _ _ e As → TK _ _ e As› _ _ ?_)
  repeat (first | refine tc_region ?_ | (refine tc_seq ?_; intro K hK) | refine tc_block ?_ | refine tc_exit ?_ | refine tc_ret ?_ | refine tc_skip ?_ | refine tc_cond_t rfl ?_ | refine tc_cond_f rfl ?_ | refine tk_then_n ?_ | refine tk_then_r ?_ | refine tk_then_e ?_ | refine tk_block_n ?_ | refine tk_block_r ?_ | refine tk_block_hit ?_ | refine tk_block_miss rfl ?_ | refine ‹∀ (e : Env) (As : List Atom), TC _ _ _ e As → TK _ _ e As› _ _ ?_)
  rw [show ((xs.length : Int) + 1).toNat = xs.length + 1 by omega, cutA_zero fun ad h => by injection h with h; subst h; rfl]
  refine tl_know (α := { z : List Value // z.length = 6 }) (Bs := fun z => [.row (.slice (some ⟨g, 0, none⟩) (xs.length + 1) c) 56 6 (xs ++ [z.1])]) (fun w hw => ?_) ?_
  · obtain ⟨zs, hz, hw2⟩ := hw.rowExt (m := 1) rfl hroom
    obtain ⟨z, rfl⟩ := List.length_eq_one_iff.1 hz
    exact ⟨⟨z, (hw2.ok _ List.mem_cons_self).2 z (by simp)⟩, hw2⟩
  rintro ⟨z, hz⟩
  simp only
  refine tl_val (wanted_none rfl) (val_move rfl) rfl rfl ?_
  refine tl_val (wanted_none rfl) (val_move rfl) rfl rfl ?_
  refine tl_val (wanted_none rfl) (val_move rfl) rfl rfl ?_
  refine tl_val (wanted_none rfl) (val_move rfl) rfl rfl ?_
  refine tl_val (wanted_none rfl) (val_add rfl rfl (by omega)) rfl rfl ?_
  refine tl_val (wanted_none rfl) (val_slice_lo rfl rfl rfl rfl rfl (by omega) (by omega)) rfl rfl ?_
  (refine tl_eff (wanted_none rfl) (eff_overlaps (t := 22) (tR := 4) rfl rfl rfl (by rw [cutA_some (by omega)]) Try.func46 (by kernel_rfl) (by kernel_rfl) (by kernel_rfl) (by kernel_rfl) rfl rfl rfl (by repeat (first | exact Has.here | refine Has.there ?_)) (by simp [ty56]; omega) (fun w hw => hv.apart hw Has.here)) rfl rfl ?_; rintro _ _ ⟨rfl, rfl⟩)
  refine tl_val (wanted_none rfl) (val_not rfl) rfl rfl ?_
  refine tl_nil ?_
  repeat (first | refine tc_region ?_ | (refine tc_seq ?_; intro K hK) | refine tc_block ?_ | refine tc_exit ?_ | refine tc_ret ?_ | refine tc_skip ?_ | refine tc_cond_t rfl ?_ | refine tc_cond_f rfl ?_ | refine tk_then_n ?_ | refine tk_then_r ?_ | refine tk_then_e ?_ | refine tk_block_n ?_ | refine tk_block_r ?_ | refine tk_block_hit ?_ | refine tk_block_miss rfl ?_ | refine ‹∀ (e : Env) (As : List Atom), TC _ _ _ e As → TK _ _ e As› _ _ ?_)
  repeat (first | refine tc_region ?_ | (refine tc_seq ?_; intro K hK) | refine tc_block ?_ | refine tc_exit ?_ | refine tc_ret ?_ | refine tc_skip ?_ | refine tc_cond_t rfl ?_ | refine tc_cond_f rfl ?_ | refine tk_then_n ?_ | refine tk_then_r ?_ | refine tk_then_e ?_ | refine tk_block_n ?_ | refine tk_block_r ?_ | refine tk_block_hit ?_ | refine tk_block_miss rfl ?_ | refine ‹∀ (e : Env) (As : List Atom), TC _ _ _ e As → TK _ _ e As› _ _ ?_)
  refine tc_mix [] [0, 1, 2, 3, 4, 5, 6, 7, 8] ([]) mixed (by kernel_rfl) (Ent.pick (by repeat (first | exact Pick.nil | exact Rem.here | apply Rem.there | apply Pick.take))) ?_
  refine tm_val rfl rfl (wanted_none rfl) (val_move rfl) rfl rfl ?_
  refine tm_val rfl rfl (wanted_none rfl) (val_move rfl) rfl rfl ?_
  refine tm_val rfl rfl (wanted_none rfl) (val_move rfl) rfl rfl ?_
  refine tm_val rfl rfl (wanted_none rfl) (val_add rfl rfl (by omega)) rfl rfl ?_
  refine tm_val rfl rfl (wanted_none rfl) (val_slice_lo rfl rfl rfl rfl rfl (by omega) (by omega)) rfl rfl ?_
  refine tm_val rfl rfl (wanted_none rfl) (val_move rfl) rfl rfl ?_
  refine tm_val rfl rfl (wanted_none rfl) (val_move rfl) rfl rfl ?_
  refine tm_val rfl rfl (wanted_none rfl) (val_slice_lo rfl rfl rfl rfl rfl h0 (by omega)) rfl rfl ?_
  (refine tm_eff rfl rfl (wanted_none rfl) (eff_copy (k := (i + 1).toNat) (zs := xs.drop i.toNat) rfl (by rw [cutA_some (by omega), Nat.zero_add]) rfl rfl rfl rfl rfl (by repeat (first | exact Rem.here | apply Rem.there)) (by simp; omega) (fun w hw => by have := ((row_rd (hw.ok _ List.mem_cons_self)).drop i.toNat c (by simp; omega)).take (xs.length - i.toNat); rw [List.drop_append_of_le_length (by omega), List.take_append_of_le_length (by simp), List.take_of_length_le (by simp)] at this; exact this) (fun c hc => ⟨hxs c (List.mem_of_mem_drop hc), h1 c (List.mem_of_mem_drop hc)⟩) (by simp; omega) (.inl (by rw [cutA_some (by omega)]; simp))) rfl rfl ?_; rintro _ _ ⟨rfl, rfl⟩; refine ⟨(by first | exact fun h => absurd h (by decide) | exact fun _ => Ent.refl | exact fun _ => hent | exact fun _ => Ent.drop hent | exact fun _ => Ent.pick (by repeat (first | exact Pick.nil | exact Rem.here | apply Rem.there | apply Pick.take))), ?_⟩)
  refine tm_nil ?_
  repeat (first | refine tc_region ?_ | (refine tc_seq ?_; intro K hK) | refine tc_block ?_ | refine tc_exit ?_ | refine tc_ret ?_ | refine tc_skip ?_ | refine tc_cond_t rfl ?_ | refine tc_cond_f rfl ?_ | refine tk_then_n ?_ | refine tk_then_r ?_ | refine tk_then_e ?_ | refine tk_block_n ?_ | refine tk_block_r ?_ | refine tk_block_hit ?_ | refine tk_block_miss rfl ?_ | refine ‹∀ (e : Env) (As : List Atom), TC _ _ _ e As → TK _ _ e As› _ _ ?_)
  repeat (first | refine tc_region ?_ | (refine tc_seq ?_; intro K hK) | refine tc_block ?_ | refine tc_exit ?_ | refine tc_ret ?_ | refine tc_skip ?_ | refine tc_cond_t rfl ?_ | refine tc_cond_f rfl ?_ | refine tk_then_n ?_ | refine tk_then_r ?_ | refine tk_then_e ?_ | refine tk_block_n ?_ | refine tk_block_r ?_ | refine tk_block_hit ?_ | refine tk_block_miss rfl ?_ | refine ‹∀ (e : Env) (As : List Atom), TC _ _ _ e As → TK _ _ e As› _ _ ?_)
  refine tl_val (wanted_none rfl) (val_move rfl) rfl rfl ?_
  refine tl_val (wanted_none rfl) (val_move rfl) rfl rfl ?_
  refine tl_val (wanted_none rfl) (val_slice_lo rfl rfl rfl rfl rfl h0 (by omega)) rfl rfl ?_
  refine tl_val (wanted_none rfl) (val_move rfl) rfl rfl ?_
  (refine tl_eff (wanted_none rfl) (eff_copy (k := i.toNat) (zs := [y]) rfl (by rw [cutA_some (by omega), Nat.zero_add]) rfl rfl rfl rfl rfl (by repeat (first | exact Rem.here | apply Rem.there)) (by simp; omega) (fun w hw => hv.rd hw hy) (fun c hc => by rw [List.mem_singleton.1 hc]; exact ⟨hy, hy1⟩) (by rw [ovw_length (by simp; omega)]; simp; omega) (.inl (by simp))) rfl rfl ?_; rintro _ _ ⟨rfl, rfl⟩)
  refine tl_nil ?_
  repeat (first | refine tc_region ?_ | (refine tc_seq ?_; intro K hK) | refine tc_block ?_ | refine tc_exit ?_ | refine tc_ret ?_ | refine tc_skip ?_ | refine tc_cond_t rfl ?_ | refine tc_cond_f rfl ?_ | refine tk_then_n ?_ | refine tk_then_r ?_ | refine tk_then_e ?_ | refine tk_block_n ?_ | refine tk_block_r ?_ | refine tk_block_hit ?_ | refine tk_block_miss rfl ?_ | refine ‹∀ (e : Env) (As : List Atom), TC _ _ _ e As → TK _ _ e As› _ _ ?_)
  rw [show (i + 1).toNat = i.toNat + 1 by omega, ins_eq2 _ _ _ _ (by omega) rfl]
  repeat (first | refine tc_region ?_ | (refine tc_seq ?_; intro K hK) | refine tc_block ?_ | refine tc_exit ?_ | refine tc_ret ?_ | refine tc_skip ?_ | refine tc_cond_t rfl ?_ | refine tc_cond_f rfl ?_ | refine tk_then_n ?_ | refine tk_then_r ?_ | refine tk_then_e ?_ | refine tk_block_n ?_ | refine tk_block_r ?_ | refine tk_block_hit ?_ | refine tk_block_miss rfl ?_ | refine ‹∀ (e : Env) (As : List Atom), TC _ _ _ e As → TK _ _ e As› _ _ ?_)
  refine tl_val (wanted_none rfl) (val_move rfl) rfl rfl ?_
  refine tl_val (wanted_none rfl) (val_assign rfl) rfl rfl ?_
  refine tl_nil ?_
  repeat (first | refine tc_region ?_ | (refine tc_seq ?_; intro K hK) | refine tc_block ?_ | refine tc_exit ?_ | refine tc_ret ?_ | refine tc_skip ?_ | refine tc_cond_t rfl ?_ | refine tc_cond_f rfl ?_ | refine tk_then_n ?_ | refine tk_then_r ?_ | refine tk_then_e ?_ | refine tk_block_n ?_ | refine tk_block_r ?_ | refine tk_block_hit ?_ | refine tk_block_miss rfl ?_ | refine ‹∀ (e : Env) (As : List Atom), TC _ _ _ e As → TK _ _ e As› _ _ ?_)
  (first | apply tk_ret Try.results40 | apply tk_end Try.results40); (repeat (first | exact ResOK.nil | apply ResOK.tmp rfl | apply ResOK.agg rfl (by repeat (first | exact Has.here | refine Has.there ?_)) (by exact rfl) (by exact rfl) (by exact rfl) | apply ResOK.scalar rfl (by repeat (first | exact Has.here | refine Has.there ?_)) (by exact rfl) (by exact rfl))); intro w hw; refine ⟨_, _, rfl, ?_, hw⟩; try dsimp only [retV]
  exact ⟨_, _, by rw [hlen], by rw [hlen]; rfl⟩
end Go.Proofs.Ytefljdelmeifhaa

/-
  RAFT: copies.
-/
import Derived.Test.YtaclpbkbjmbceaaRb
set_option linter.unusedVariables false
set_option linter.unusedSimpArgs false
set_option maxRecDepth 100000
set_option maxHeartbeats 2000000
namespace Go.Proofs.Ytaclpbkbjmbceaa
open Go.Eng
theorem cloneI_m (l : List Int) (A : Option Addr) (c : Nat) (w : World) [hl : Sl w (fpAll []) ints 1 l A c] (hb : l.length ≤ 100000) : Meets Try.prog 42 [.slice A l.length c] w (fpAll []) (fun v As => ∃ x : At Int, x.l = l ∧ v = x.v ∧ As = [.row (.slice x.a x.l.length x.c) 3 1 (x.l.map ints)]) := by
  refine enter tysOK Try.func42 rfl Try.ntmps42 rfl (HeapOK.start w) ?_
  repeat (first | refine St.imp ?_ | (refine st_seq ?_; intro K hK) | refine st_t ?_ | refine st_f ?_ | refine st_miss ?_)
  refine a_val ?_ v_assign
  repeat (first | refine St.imp ?_ | (refine st_seq ?_; intro K hK) | refine st_t ?_ | refine st_f ?_ | refine st_miss ?_)
  refine a_val ?_ v_move
  (first | refine a_val ?_ v_eql | refine a_val ?_ v_seql | refine a_val ?_ v_beql | refine a_val ?_ v_isNil)
  repeat (first | refine St.imp ?_ | (refine st_seq ?_; intro K hK) | refine st_t ?_ | refine st_f ?_ | refine st_miss ?_)
  refine a_cond (fun hc => ?_) (fun hc => ?_)
  · have hA : A = none := by cases A <;> simp_all
    have hn : l = [] := by
      refine List.eq_nil_of_length_eq_zero (Nat.eq_zero_of_not_pos fun h => ?_)
      obtain ⟨b, o, h2⟩ := hl.some h
      rw [hA] at h2
      cases h2
    repeat (first | refine St.imp ?_ | (refine st_seq ?_; intro K hK) | refine st_t ?_ | refine st_f ?_ | refine st_miss ?_)
    refine a_val ?_ v_assign
    repeat (first | refine St.imp ?_ | (refine st_seq ?_; intro K hK) | refine st_t ?_ | refine st_f ?_ | refine st_miss ?_)
    refine tk_ent (Ent.nilrow 3 1) ?_
    first | refine a_ret Try.results42 ?_ | refine a_end Try.results42 ?_
    exact ⟨⟨[], none, 0⟩, hn.symm, rfl, rfl⟩
  repeat (first | refine St.imp ?_ | (refine st_seq ?_; intro K hK) | refine st_t ?_ | refine st_f ?_ | refine st_miss ?_)
  (first | (refine a_eff ?_ e_buildSlice1; rintro _ _ ⟨bz, rfl, rfl⟩) | (refine a_eff ?_ e_buildSlice0; rintro _ _ ⟨bz, rfl, rfl⟩) | (refine a_eff ?_ e_buildSliceN; rintro _ _ ⟨bz, rfl, rfl⟩))
  refine a_val ?_ v_move
  (refine a_eff ?_ (e_append (hm := by simp only [List.length_nil, List.length_map, ty3]; omega)); rintro _ _ ⟨Ax, cx, rfl, rfl⟩)
  refine a_val ?_ v_assign
  repeat (first | refine St.imp ?_ | (refine st_seq ?_; intro K hK) | refine st_t ?_ | refine st_f ?_ | refine st_miss ?_)
  first | refine a_ret Try.results42 ?_ | refine a_end Try.results42 ?_
  exact ⟨⟨l, Ax, cx⟩, rfl, by simp, by simp⟩
theorem cloneR_m (l : List ReadQ) (A : Option Addr) (c : Nat) (w : World) [hl : Sl w (fpAll []) ReadQ.enc 4 l A c] (hb : l.length ≤ 100000) : Meets Try.prog 43 [.slice A l.length c] w (fpAll []) (fun v As => ∃ x : At ReadQ, x.l = l ∧ v = x.v ∧ As = [.row (.slice x.a x.l.length x.c) 57 4 (x.l.map ReadQ.enc)]) := by
  refine enter tysOK Try.func43 rfl Try.ntmps43 rfl (HeapOK.start w) ?_
  repeat (first | refine St.imp ?_ | (refine st_seq ?_; intro K hK) | refine st_t ?_ | refine st_f ?_ | refine st_miss ?_)
  refine a_val ?_ v_assign
  repeat (first | refine St.imp ?_ | (refine st_seq ?_; intro K hK) | refine st_t ?_ | refine st_f ?_ | refine st_miss ?_)
  refine a_val ?_ v_move
  (first | refine a_val ?_ v_eql | refine a_val ?_ v_seql | refine a_val ?_ v_beql | refine a_val ?_ v_isNil)
  repeat (first | refine St.imp ?_ | (refine st_seq ?_; intro K hK) | refine st_t ?_ | refine st_f ?_ | refine st_miss ?_)
  refine a_cond (fun hc => ?_) (fun hc => ?_)
  · have hA : A = none := by cases A <;> simp_all
    have hn : l = [] := by
      refine List.eq_nil_of_length_eq_zero (Nat.eq_zero_of_not_pos fun h => ?_)
      obtain ⟨b, o, h2⟩ := hl.some h
      rw [hA] at h2
      cases h2
    repeat (first | refine St.imp ?_ | (refine st_seq ?_; intro K hK) | refine st_t ?_ | refine st_f ?_ | refine st_miss ?_)
    refine a_val ?_ v_assign
    repeat (first | refine St.imp ?_ | (refine st_seq ?_; intro K hK) | refine st_t ?_ | refine st_f ?_ | refine st_miss ?_)
    refine tk_ent (Ent.nilrow 57 4) ?_
    first | refine a_ret Try.results43 ?_ | refine a_end Try.results43 ?_
    exact ⟨⟨[], none, 0⟩, hn.symm, rfl, rfl⟩
  repeat (first | refine St.imp ?_ | (refine st_seq ?_; intro K hK) | refine st_t ?_ | refine st_f ?_ | refine st_miss ?_)
  (first | (refine a_eff ?_ e_buildSlice1; rintro _ _ ⟨bz, rfl, rfl⟩) | (refine a_eff ?_ e_buildSlice0; rintro _ _ ⟨bz, rfl, rfl⟩) | (refine a_eff ?_ e_buildSliceN; rintro _ _ ⟨bz, rfl, rfl⟩))
  refine a_val ?_ v_move
  (refine a_eff ?_ (e_append (hm := by simp only [List.length_nil, List.length_map, ty57]; omega)); rintro _ _ ⟨Ax, cx, rfl, rfl⟩)
  refine a_val ?_ v_assign
  repeat (first | refine St.imp ?_ | (refine st_seq ?_; intro K hK) | refine st_t ?_ | refine st_f ?_ | refine st_miss ?_)
  first | refine a_ret Try.results43 ?_ | refine a_end Try.results43 ?_
  exact ⟨⟨l, Ax, cx⟩, rfl, by simp, by simp⟩
theorem growE_m (n : Int) (w : World) (hn : 0 ≤ n ∧ n ≤ 100000) : Meets Try.prog 57 [.slice none 0 0, .int .i64 n] w (fpAll []) (fun v As => ∃ A c, v = .slice A 0 c ∧ As = [.row (.slice A 0 c) 68 3 []]) := by
  refine enter tysOK Try.func57 rfl Try.ntmps57 rfl (HeapOK.start w) ?_
  repeat (first | refine St.imp ?_ | (refine st_seq ?_; intro K hK) | refine st_t ?_ | refine st_f ?_ | refine st_miss ?_)
  refine a_val ?_ v_assign
  repeat (first | refine St.imp ?_ | (refine st_seq ?_; intro K hK) | refine st_t ?_ | refine st_f ?_ | refine st_miss ?_)
  refine a_val ?_ v_move
  refine a_val ?_ v_lss
  repeat (first | refine St.imp ?_ | (refine st_seq ?_; intro K hK) | refine st_t ?_ | refine st_f ?_ | refine st_miss ?_)
  refine a_cond (fun hc => ?_) (fun hc => ?_)
  · exfalso
    simp at hc
    omega
  repeat (first | refine St.imp ?_ | (refine st_seq ?_; intro K hK) | refine st_t ?_ | refine st_f ?_ | refine st_miss ?_)
  refine a_val ?_ v_move
  refine a_val ?_ v_move
  refine a_val ?_ v_cap
  refine a_val ?_ v_move
  (first | refine a_val ?_ v_len | refine a_val ?_ v_lenS)
  refine a_val ?_ v_sub
  refine a_val ?_ v_sub
  refine a_val ?_ v_assign
  repeat (first | refine St.imp ?_ | (refine st_seq ?_; intro K hK) | refine st_t ?_ | refine st_f ?_ | refine st_miss ?_)
  refine a_val ?_ v_move
  refine a_val ?_ v_gtr
  repeat (first | refine St.imp ?_ | (refine st_seq ?_; intro K hK) | refine st_t ?_ | refine st_f ?_ | refine st_miss ?_)
  refine a_cond (fun hc => ?_) (fun hc => ?_)
  · have hp : 0 < n := by simp at hc; omega
    repeat (first | refine St.imp ?_ | (refine st_seq ?_; intro K hK) | refine st_t ?_ | refine st_f ?_ | refine st_miss ?_)
    refine a_val ?_ v_move
    refine a_val ?_ v_move
    refine a_val ?_ v_cap
    (first | refine a_val ?_ v_sliceLo | refine a_val ?_ v_sliceHi | refine a_val ?_ v_sliceLH | refine a_val ?_ v_cutLo | refine a_val ?_ v_cutHi | refine a_val ?_ v_cutLH | refine a_val ?_ v_sliceLHM)
    refine a_val ?_ v_move
    (refine a_eff ?_ (e_appendZ (hb := by simp only [ty68]; omega)); rintro _ _ ⟨g', c', rfl, hc', rfl⟩)
    refine a_val ?_ v_move
    (first | refine a_val ?_ v_len | refine a_val ?_ v_lenS)
    refine a_val ?_ (v_sliceHi (h1 := by omega))
    refine a_val ?_ v_assign
    repeat (first | refine St.imp ?_ | (refine st_seq ?_; intro K hK) | refine st_t ?_ | refine st_f ?_ | refine st_miss ?_)
    refine tl_ent (Ent.rowTake (m := 0) (by omega)) ?_
    have e1 : cutA (some ⟨g', 0, none⟩) ty68.size c' 0 = some ⟨g', 0, none⟩ := cutA_zero (fun ad h => by injection h with h; subst h; rfl)
    rw [e1]
    repeat (first | refine St.imp ?_ | (refine st_seq ?_; intro K hK) | refine st_t ?_ | refine st_f ?_ | refine st_miss ?_)
    refine a_val ?_ v_move
    refine a_val ?_ v_assign
    repeat (first | refine St.imp ?_ | (refine st_seq ?_; intro K hK) | refine st_t ?_ | refine st_f ?_ | refine st_miss ?_)
    first | refine a_ret Try.results57 ?_ | refine a_end Try.results57 ?_
    exact ⟨some ⟨g', 0, none⟩, c', rfl, rfl⟩
  · repeat (first | refine St.imp ?_ | (refine st_seq ?_; intro K hK) | refine st_t ?_ | refine st_f ?_ | refine st_miss ?_)
    refine tl_ent (Ent.nilrow 68 3) ?_
    repeat (first | refine St.imp ?_ | (refine st_seq ?_; intro K hK) | refine st_t ?_ | refine st_f ?_ | refine st_miss ?_)
    refine a_val ?_ v_move
    refine a_val ?_ v_assign
    repeat (first | refine St.imp ?_ | (refine st_seq ?_; intro K hK) | refine st_t ?_ | refine st_f ?_ | refine st_miss ?_)
    first | refine a_ret Try.results57 ?_ | refine a_end Try.results57 ?_
    exact ⟨none, 0, rfl, rfl⟩
abbrev slv (x : At Ent) : List Value := [.slice x.a x.l.length x.c]
theorem concat_m (ls : List (At Ent)) (A : Option Addr) (c : Nat) (w : World) [hl : Sl w (fpAll []) slv 1 ls A c] (hs : ∀ x ∈ ls, Sl w (fpAll []) Ent.enc 3 x.l x.a x.c) (hb : (ls.flatMap (·.l)).length ≤ 100000) : Meets Try.prog 53 [.slice A ls.length c] w (fpAll []) (fun v As => ∃ x : At Ent, x.l = ls.flatMap (·.l) ∧ v = x.v ∧ As = [rowE x]) := by
  have hlen := hl.len
  have hpre : ∀ j : Nat, ((ls.take j).flatMap (·.l)).length ≤ (ls.flatMap (·.l)).length := fun j => by
    conv => rhs; rw [← List.take_append_drop j ls]
    rw [List.flatMap_append, List.length_append]; omega
  have hstep : ∀ (j : Int) (x : At Ent), 0 ≤ j → ls[j.toNat]? = some x → (ls.take (j + 1).toNat).flatMap (·.l) = (ls.take j.toNat).flatMap (·.l) ++ x.l := fun j x h0 hx => by
    rw [show (j + 1).toNat = j.toNat + 1 by omega, List.take_add_one, hx]; simp
  refine enter tysOK Try.func53 rfl Try.ntmps53 rfl (HeapOK.start w) ?_
  repeat (first | refine St.imp ?_ | (refine st_seq ?_; intro K hK) | refine st_t ?_ | refine st_f ?_ | refine st_miss ?_)
  refine a_val ?_ v_assign
  repeat (first | refine St.imp ?_ | (refine st_seq ?_; intro K hK) | refine st_t ?_ | refine st_f ?_ | refine st_miss ?_)
  refine a_val ?_ v_assign
  repeat (first | refine St.imp ?_ | (refine st_seq ?_; intro K hK) | refine st_t ?_ | refine st_f ?_ | refine st_miss ?_)
  refine a_val ?_ v_move
  (first | refine a_val ?_ v_len | refine a_val ?_ v_lenS)
  refine a_val ?_ v_move
  repeat (first | refine St.imp ?_ | (refine st_seq ?_; intro K hK) | refine st_t ?_ | refine st_f ?_ | refine st_miss ?_)
  refine a_for ls.length (fun j _ => [(9, .slice A ls.length c), (10, .int .i64 ls.length), (11, .int .i64 j), (3, .int .i64 ((ls.take j.toNat).flatMap (·.l)).length), (0, .slice A ls.length c)]) (fun _ _ => []) (fun _ _ => True) () trivial ?_
  intro j _ h0 h1 _ KL hKL
  repeat (first | refine St.imp ?_ | (refine st_seq ?_; intro K hK) | refine st_t ?_ | refine st_f ?_ | refine st_miss ?_)
  refine a_val ?_ v_lss
  repeat (first | refine St.imp ?_ | (refine st_seq ?_; intro K hK) | refine st_t ?_ | refine st_f ?_ | refine st_miss ?_)
  refine a_cond (fun hc => ?_) (fun hc => ?_)
  · have hlt : j < ls.length := by simpa using hc
    obtain ⟨x, hx⟩ := get_some (l := ls) h0 hlt
    have hst := hstep j x h0 hx
    have hp1 := hpre (j + 1).toNat
    have hp2 : (((ls.take (j + 1).toNat).flatMap (·.l)).length : Int) = ((ls.take j.toNat).flatMap (·.l)).length + (x.l.length : Int) := by rw [hst, List.length_append]; omega
    repeat (first | refine St.imp ?_ | (refine st_seq ?_; intro K hK) | refine st_t ?_ | refine st_f ?_ | refine st_miss ?_)
    repeat (first | refine St.imp ?_ | (refine st_seq ?_; intro K hK) | refine st_t ?_ | refine st_f ?_ | refine st_miss ?_)
    (first | refine a_val ?_ v_index | refine a_val ?_ v_indexB)
    (first | refine a_val ?_ v_load | refine a_val ?_ v_loadA | refine a_val ?_ (v_loadE hx) | refine a_val ?_ (v_loadE0 hx) | refine a_val ?_ (v_loadEA hx) | refine a_val ?_ (v_loadEA0 hx))
    refine a_val ?_ v_assign
    repeat (first | refine St.imp ?_ | (refine st_seq ?_; intro K hK) | refine st_t ?_ | refine st_f ?_ | refine st_miss ?_)
    refine a_val ?_ v_move
    refine a_val ?_ v_move
    (first | refine a_val ?_ v_len | refine a_val ?_ v_lenS)
    (first | refine a_val ?_ v_add | refine a_val ?_ v_cat)
    refine a_val ?_ v_assign
    repeat (first | refine St.imp ?_ | (refine st_seq ?_; intro K hK) | refine st_t ?_ | refine st_f ?_ | refine st_miss ?_)
    refine a_val ?_ v_move
    refine a_val ?_ v_lss
    repeat (first | refine St.imp ?_ | (refine st_seq ?_; intro K hK) | refine st_t ?_ | refine st_f ?_ | refine st_miss ?_)
    (first | refine a_val ?_ v_add | refine a_val ?_ v_cat)
    refine a_val ?_ v_move
    repeat (first | refine St.imp ?_ | (refine st_seq ?_; intro K hK) | refine st_t ?_ | refine st_f ?_ | refine st_miss ?_)
    have h := hKL () (by omega) trivial
    rw [hp2] at h
    exact a_weak h
  have hj : (ls.take j.toNat).flatMap (·.l) = ls.flatMap (·.l) := by
    have : ¬ j < ls.length := by simpa using hc
    rw [List.take_of_length_le (by omega)]
  rw [hj]
  repeat (first | refine St.imp ?_ | (refine st_seq ?_; intro K hK) | refine st_t ?_ | refine st_f ?_ | refine st_miss ?_)
  repeat (first | refine St.imp ?_ | (refine st_seq ?_; intro K hK) | refine st_t ?_ | refine st_f ?_ | refine st_miss ?_)
  refine a_val ?_ v_move
  (refine a_eff ?_ (e_callN rfl rfl fun w hw => growE_m _ w (by omega)); rintro _ _ ⟨_, ⟨A1, c1, rfl, rfl⟩, rfl⟩; simp only [List.cons_append, List.nil_append])
  refine a_val ?_ v_assign
  repeat (first | refine St.imp ?_ | (refine st_seq ?_; intro K hK) | refine st_t ?_ | refine st_f ?_ | refine st_miss ?_)
  refine a_val ?_ v_move
  (first | refine a_val ?_ v_len | refine a_val ?_ v_lenS)
  refine a_val ?_ v_move
  repeat (first | refine St.imp ?_ | (refine st_seq ?_; intro K hK) | refine st_t ?_ | refine st_f ?_ | refine st_miss ?_)
  refine a_for ls.length (fun j s => [(25, .slice A ls.length c), (26, .int .i64 ls.length), (27, .int .i64 j), (6, .slice s.1 ((ls.take j.toNat).flatMap (·.l)).length s.2)]) (fun j s => [.row (.slice s.1 ((ls.take j.toNat).flatMap (·.l)).length s.2) 68 3 (((ls.take j.toNat).flatMap (·.l)).map Ent.enc)]) (fun _ _ => True) (A1, c1) trivial ?_
  rintro j ⟨A2, c2⟩ h0 h1 _ KL hKL
  repeat (first | refine St.imp ?_ | (refine st_seq ?_; intro K hK) | refine st_t ?_ | refine st_f ?_ | refine st_miss ?_)
  refine a_val ?_ v_lss
  repeat (first | refine St.imp ?_ | (refine st_seq ?_; intro K hK) | refine st_t ?_ | refine st_f ?_ | refine st_miss ?_)
  refine a_cond (fun hc => ?_) (fun hc => ?_)
  · have hlt : j < ls.length := by simpa using hc
    obtain ⟨x, hx⟩ := get_some (l := ls) h0 hlt
    have hst := hstep j x h0 hx
    have hp1 := hpre (j + 1).toNat
    rw [hst, List.length_append] at hp1
    have hsx := hs x (List.mem_of_getElem? hx)
    repeat (first | refine St.imp ?_ | (refine st_seq ?_; intro K hK) | refine st_t ?_ | refine st_f ?_ | refine st_miss ?_)
    repeat (first | refine St.imp ?_ | (refine st_seq ?_; intro K hK) | refine st_t ?_ | refine st_f ?_ | refine st_miss ?_)
    (first | refine a_val ?_ v_index | refine a_val ?_ v_indexB)
    (first | refine a_val ?_ v_load | refine a_val ?_ v_loadA | refine a_val ?_ (v_loadE hx) | refine a_val ?_ (v_loadE0 hx) | refine a_val ?_ (v_loadEA hx) | refine a_val ?_ (v_loadEA0 hx))
    refine a_val ?_ v_assign
    repeat (first | refine St.imp ?_ | (refine st_seq ?_; intro K hK) | refine st_t ?_ | refine st_f ?_ | refine st_miss ?_)
    refine a_val ?_ v_move
    refine a_val ?_ v_move
    (refine a_eff ?_ (e_append (hm := by simp only [List.length_map, ty68]; omega)); rintro _ _ ⟨Ax, cx, rfl, rfl⟩)
    refine a_val ?_ v_assign
    repeat (first | refine St.imp ?_ | (refine st_seq ?_; intro K hK) | refine st_t ?_ | refine st_f ?_ | refine st_miss ?_)
    (first | refine a_val ?_ v_add | refine a_val ?_ v_cat)
    refine a_val ?_ v_move
    repeat (first | refine St.imp ?_ | (refine st_seq ?_; intro K hK) | refine st_t ?_ | refine st_f ?_ | refine st_miss ?_)
    have h := hKL (Ax, cx) (by omega) trivial
    rw [hst] at h
    rw [← List.map_append, List.length_map]
    exact a_weak h
  · have hj : (ls.take j.toNat).flatMap (·.l) = ls.flatMap (·.l) := by
      have : ¬ j < ls.length := by simpa using hc
      rw [List.take_of_length_le (by omega)]
    rw [hj]
    repeat (first | refine St.imp ?_ | (refine st_seq ?_; intro K hK) | refine st_t ?_ | refine st_f ?_ | refine st_miss ?_)
    repeat (first | refine St.imp ?_ | (refine st_seq ?_; intro K hK) | refine st_t ?_ | refine st_f ?_ | refine st_miss ?_)
    refine a_val ?_ v_move
    refine a_val ?_ v_assign
    repeat (first | refine St.imp ?_ | (refine st_seq ?_; intro K hK) | refine st_t ?_ | refine st_f ?_ | refine st_miss ?_)
    first | refine a_ret Try.results53 ?_ | refine a_end Try.results53 ?_
    exact ⟨⟨ls.flatMap (·.l), A2, c2⟩, rfl, rfl, rfl⟩
theorem with_m (q : LogQ) (ls : List (At Ent)) (A : Option Addr) (c : Nat) (w : World) [hl : Sl w (fpAll []) slv 1 ls A c] (hs : ∀ x ∈ ls, Sl w (fpAll []) Ent.enc 3 x.l x.a x.c) (hb : (ls.flatMap (·.l)).length ≤ 100000) : Meets Try.prog 47 [.agg q.enc.toArray, .slice A ls.length c] w (fpAll []) (fun v As => ∃ x : At Ent, x.l = ls.flatMap (·.l) ∧ v = .agg (LogQ.enc ⟨q.base, q.baseTerm, x⟩).toArray ∧ As = [rowE x]) := by
  simp only [LogQ.enc]
  refine enter tysOK Try.func47 rfl Try.ntmps47 rfl (HeapOK.start w) ?_
  repeat (first | refine St.imp ?_ | (refine st_seq ?_; intro K hK) | refine st_t ?_ | refine st_f ?_ | refine st_miss ?_)
  (refine a_eff ?_ e_box; rintro _ _ ⟨bz, rfl, rfl⟩)
  (refine a_eff ?_ e_alloc; rintro _ _ ⟨bz, rfl, rfl⟩)
  repeat (first | refine St.imp ?_ | (refine st_seq ?_; intro K hK) | refine st_t ?_ | refine st_f ?_ | refine st_miss ?_)
  refine a_val ?_ v_move
  (refine a_eff ?_ (e_callN rfl rfl fun w hw => concat_m ls A c w (fun x hx => (hs x hx).keep hw) hb); rintro _ _ ⟨_, ⟨x, hxl, rfl, rfl⟩, rfl⟩; simp only [List.cons_append, List.nil_append])
  (first | refine a_val ?_ v_field | refine a_val ?_ v_fieldE | refine a_val ?_ v_field0)
  (first | (refine a_effn ?_ e_store; rintro _ _ rfl) | (refine a_effn ?_ e_storeW; rintro _ _ rfl) | (refine a_effn ?_ e_storeA; rintro _ _ rfl))
  repeat (first | refine St.imp ?_ | (refine st_seq ?_; intro K hK) | refine st_t ?_ | refine st_f ?_ | refine st_miss ?_)
  (first | refine a_val ?_ v_load | refine a_val ?_ v_loadA)
  (first | (refine a_effn ?_ e_store; rintro _ _ rfl) | (refine a_effn ?_ e_storeW; rintro _ _ rfl) | (refine a_effn ?_ e_storeA; rintro _ _ rfl))
  repeat (first | refine St.imp ?_ | (refine st_seq ?_; intro K hK) | refine st_t ?_ | refine st_f ?_ | refine st_miss ?_)
  first | refine a_retP [rowE x] Try.results47 ?_ | refine a_endP [rowE x] Try.results47 ?_
  exact ⟨x, hxl, rfl, rfl⟩
theorem ownLog_m (q : LogQ) (w : World) [hq : LogAt w (fpAll []) q] (hb : q.ents.l.length ≤ 100000) : Meets Try.prog 41 [.agg q.enc.toArray] w (fpAll []) (fun v As => ∃ x : At Ent, x.l = q.ents.l ∧ v = .agg (LogQ.enc ⟨q.base, q.baseTerm, x⟩).toArray ∧ As = [rowE x]) := by
  refine enter tysOK Try.func41 rfl Try.ntmps41 rfl (HeapOK.start w) ?_
  repeat (first | refine St.imp ?_ | (refine st_seq ?_; intro K hK) | refine st_t ?_ | refine st_f ?_ | refine st_miss ?_)
  (refine a_eff ?_ e_box; rintro _ _ ⟨bz, rfl, rfl⟩)
  (refine a_eff ?_ e_alloc; rintro _ _ ⟨bz, rfl, rfl⟩)
  repeat (first | refine St.imp ?_ | (refine st_seq ?_; intro K hK) | refine st_t ?_ | refine st_f ?_ | refine st_miss ?_)
  refine a_val ?_ (v_loadA (vs := q.enc))
  (first | refine a_val ?_ v_field | refine a_val ?_ v_fieldE | refine a_val ?_ v_field0)
  (first | refine a_val ?_ v_load | refine a_val ?_ v_loadA)
  (first | (refine a_eff ?_ e_buildSlice1; rintro _ _ ⟨bz, rfl, rfl⟩) | (refine a_eff ?_ e_buildSlice0; rintro _ _ ⟨bz, rfl, rfl⟩) | (refine a_eff ?_ e_buildSliceN; rintro _ _ ⟨bz, rfl, rfl⟩))
  rename Nat => b6
  (refine a_eff ?_ (e_callN rfl rfl fun w hw => (haveI := Sl.blk1 (s := 1) (enc := slv) (w := w) (As := _) (Bs := []) (g := b6) q.ents; with_m q [q.ents] (some ⟨b6, 0, none⟩) 1 w (fun x hx => by rw [List.mem_singleton.1 hx]; exact hq.sl.keep hw) (by simpa using hb))); rintro _ _ ⟨_, ⟨x, hxl, rfl, rfl⟩, rfl⟩; simp only [List.cons_append, List.nil_append])
  (first | (refine a_effn ?_ e_store; rintro _ _ rfl) | (refine a_effn ?_ e_storeW; rintro _ _ rfl) | (refine a_effn ?_ e_storeA; rintro _ _ rfl))
  repeat (first | refine St.imp ?_ | (refine st_seq ?_; intro K hK) | refine st_t ?_ | refine st_f ?_ | refine st_miss ?_)
  first | refine a_retP [rowE x] Try.results41 ?_ | refine a_endP [rowE x] Try.results41 ?_
  exact ⟨x, by simpa using hxl, rfl, rfl⟩
end Go.Proofs.Ytaclpbkbjmbceaa

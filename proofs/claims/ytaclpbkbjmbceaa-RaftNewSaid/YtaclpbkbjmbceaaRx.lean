/-
  RAFT: the reference's state; alike to the program's.
-/
import Derived.Test.YtaclpbkbjmbceaaRv
set_option linter.unusedVariables false
set_option linter.unusedSimpArgs false
set_option maxRecDepth 100000
set_option maxHeartbeats 4000000
namespace Go.Proofs.Ytaclpbkbjmbceaa
open Go.Eng
theorem eqI_m (h : List Int) (A A' : Option Addr) (c c' : Nat) (w : World) [hl : Sl w (fpAll []) ints 1 h A c] [hl' : Sl w (fpAll []) ints 1 h A' c'] : Meets Try.prog 12 [.slice A h.length c, .slice A' h.length c'] w (fpAll []) (fun v _ => v = .bool true) := by
  refine enter tysOK Try.func12 rfl Try.ntmps12 rfl (HeapOK.start w) ?_
  have hlen := hl.len
  repeat (first | refine St.imp ?_ | (refine st_seq ?_; intro K hK) | refine st_t ?_ | refine st_f ?_ | refine st_miss ?_)
  refine a_val ?_ v_assign
  repeat (first | refine St.imp ?_ | (refine st_seq ?_; intro K hK) | refine st_t ?_ | refine st_f ?_ | refine st_miss ?_)
  refine a_val ?_ v_move
  (first | refine a_val ?_ v_len | refine a_val ?_ v_lenS)
  refine a_val ?_ v_move
  (first | refine a_val ?_ v_len | refine a_val ?_ v_lenS)
  refine a_val ?_ (v_neqS)
  repeat (first | refine St.imp ?_ | (refine st_seq ?_; intro K hK) | refine st_t ?_ | refine st_f ?_ | refine st_miss ?_)
  refine a_val ?_ v_assign
  repeat (first | refine St.imp ?_ | (refine st_seq ?_; intro K hK) | refine st_t ?_ | refine st_f ?_ | refine st_miss ?_)
  refine a_for h.length (fun i _ => [(5, .int .i64 i), (0, .slice A h.length c), (1, .slice A' h.length c')]) (fun _ _ => []) (fun _ _ => True) () trivial ?_
  intro i _ h0 h1 _ KL hKL
  repeat (first | refine St.imp ?_ | (refine st_seq ?_; intro K hK) | refine st_t ?_ | refine st_f ?_ | refine st_miss ?_)
  refine a_val ?_ v_move
  refine a_val ?_ v_move
  (first | refine a_val ?_ v_len | refine a_val ?_ v_lenS)
  refine a_val ?_ v_lss
  repeat (first | refine St.imp ?_ | (refine st_seq ?_; intro K hK) | refine st_t ?_ | refine st_f ?_ | refine st_miss ?_)
  refine a_cond (fun hc => ?_) (fun hc => ?_)
  · have hlt : i < h.length := by simpa using hc
    obtain ⟨x, hx⟩ := get_some (l := h) h0 hlt
    repeat (first | refine St.imp ?_ | (refine st_seq ?_; intro K hK) | refine st_t ?_ | refine st_f ?_ | refine st_miss ?_)
    repeat (first | refine St.imp ?_ | (refine st_seq ?_; intro K hK) | refine st_t ?_ | refine st_f ?_ | refine st_miss ?_)
    refine a_mix [0, 1, 2, 3, 4, 5, 6, 7, 8] ?_
    refine m_val rfl ?_ v_move
    refine m_val rfl ?_ v_move
    (first | refine m_val rfl ?_ v_index | refine m_val rfl ?_ v_indexB)
    (first | refine m_val rfl ?_ v_load | refine m_val rfl ?_ v_loadA | refine m_val rfl ?_ (v_loadE hx) | refine m_val rfl ?_ (v_loadE0 hx) | refine m_val rfl ?_ (v_loadEA hx) | refine m_val rfl ?_ (v_loadEA0 hx))
    refine m_val rfl ?_ v_move
    refine m_val rfl ?_ v_move
    (first | refine m_val rfl ?_ v_index | refine m_val rfl ?_ v_indexB)
    (first | refine m_val rfl ?_ v_load | refine m_val rfl ?_ v_loadA | refine m_val rfl ?_ (v_loadE hx) | refine m_val rfl ?_ (v_loadE0 hx) | refine m_val rfl ?_ (v_loadEA hx) | refine m_val rfl ?_ (v_loadEA0 hx))
    refine m_val rfl ?_ (v_neqS)
    repeat (first | refine St.imp ?_ | (refine st_seq ?_; intro K hK) | refine st_t ?_ | refine st_f ?_ | refine st_miss ?_)
    refine a_val ?_ v_move
    (first | refine a_val ?_ v_add | refine a_val ?_ v_cat)
    refine a_val ?_ v_assign
    repeat (first | refine St.imp ?_ | (refine st_seq ?_; intro K hK) | refine st_t ?_ | refine st_f ?_ | refine st_miss ?_)
    exact a_weak (hKL () (by omega) trivial)
  · repeat (first | refine St.imp ?_ | (refine st_seq ?_; intro K hK) | refine st_t ?_ | refine st_f ?_ | refine st_miss ?_)
    repeat (first | refine St.imp ?_ | (refine st_seq ?_; intro K hK) | refine st_t ?_ | refine st_f ?_ | refine st_miss ?_)
    refine a_val ?_ v_assign
    repeat (first | refine St.imp ?_ | (refine st_seq ?_; intro K hK) | refine st_t ?_ | refine st_f ?_ | refine st_miss ?_)
    first | refine a_ret Try.results12 ?_ | refine a_end Try.results12 ?_
    rfl
theorem eqE_m (h : List Ent) (A A' : Option Addr) (c c' : Nat) (w : World) [hl : Sl w (fpAll []) Ent.enc 3 h A c] [hl' : Sl w (fpAll []) Ent.enc 3 h A' c'] : Meets Try.prog 17 [.slice A h.length c, .slice A' h.length c'] w (fpAll []) (fun v _ => v = .bool true) := by
  refine enter tysOK Try.func17 rfl Try.ntmps17 rfl (HeapOK.start w) ?_
  have hlen := hl.len
  repeat (first | refine St.imp ?_ | (refine st_seq ?_; intro K hK) | refine st_t ?_ | refine st_f ?_ | refine st_miss ?_)
  refine a_val ?_ v_assign
  repeat (first | refine St.imp ?_ | (refine st_seq ?_; intro K hK) | refine st_t ?_ | refine st_f ?_ | refine st_miss ?_)
  refine a_val ?_ v_move
  (first | refine a_val ?_ v_len | refine a_val ?_ v_lenS)
  refine a_val ?_ v_move
  (first | refine a_val ?_ v_len | refine a_val ?_ v_lenS)
  refine a_val ?_ (v_neqS)
  repeat (first | refine St.imp ?_ | (refine st_seq ?_; intro K hK) | refine st_t ?_ | refine st_f ?_ | refine st_miss ?_)
  refine a_val ?_ v_assign
  repeat (first | refine St.imp ?_ | (refine st_seq ?_; intro K hK) | refine st_t ?_ | refine st_f ?_ | refine st_miss ?_)
  refine a_for h.length (fun i _ => [(5, .int .i64 i), (0, .slice A h.length c), (1, .slice A' h.length c')]) (fun _ _ => []) (fun _ _ => True) () trivial ?_
  intro i _ h0 h1 _ KL hKL
  repeat (first | refine St.imp ?_ | (refine st_seq ?_; intro K hK) | refine st_t ?_ | refine st_f ?_ | refine st_miss ?_)
  refine a_val ?_ v_move
  refine a_val ?_ v_move
  (first | refine a_val ?_ v_len | refine a_val ?_ v_lenS)
  refine a_val ?_ v_lss
  repeat (first | refine St.imp ?_ | (refine st_seq ?_; intro K hK) | refine st_t ?_ | refine st_f ?_ | refine st_miss ?_)
  refine a_cond (fun hc => ?_) (fun hc => ?_)
  · have hlt : i < h.length := by simpa using hc
    obtain ⟨x, hx⟩ := get_some (l := h) h0 hlt
    repeat (first | refine St.imp ?_ | (refine st_seq ?_; intro K hK) | refine st_t ?_ | refine st_f ?_ | refine st_miss ?_)
    repeat (first | refine St.imp ?_ | (refine st_seq ?_; intro K hK) | refine st_t ?_ | refine st_f ?_ | refine st_miss ?_)
    refine a_mix [0, 1, 2, 3, 4, 5, 6, 7, 8] ?_
    refine m_val rfl ?_ v_move
    refine m_val rfl ?_ v_move
    (first | refine m_val rfl ?_ v_index | refine m_val rfl ?_ v_indexB)
    (first | refine m_val rfl ?_ v_load | refine m_val rfl ?_ v_loadA | refine m_val rfl ?_ (v_loadE hx) | refine m_val rfl ?_ (v_loadE0 hx) | refine m_val rfl ?_ (v_loadEA hx) | refine m_val rfl ?_ (v_loadEA0 hx))
    refine m_val rfl ?_ v_move
    refine m_val rfl ?_ v_move
    (first | refine m_val rfl ?_ v_index | refine m_val rfl ?_ v_indexB)
    (first | refine m_val rfl ?_ v_load | refine m_val rfl ?_ v_loadA | refine m_val rfl ?_ (v_loadE hx) | refine m_val rfl ?_ (v_loadE0 hx) | refine m_val rfl ?_ (v_loadEA hx) | refine m_val rfl ?_ (v_loadEA0 hx))
    refine m_val rfl ?_ (val_agg_neq_same rfl rfl Try.underlying68 (by kernel_rfl) (by kernel_rfl) rfl)
    repeat (first | refine St.imp ?_ | (refine st_seq ?_; intro K hK) | refine st_t ?_ | refine st_f ?_ | refine st_miss ?_)
    refine a_val ?_ v_move
    (first | refine a_val ?_ v_add | refine a_val ?_ v_cat)
    refine a_val ?_ v_assign
    repeat (first | refine St.imp ?_ | (refine st_seq ?_; intro K hK) | refine st_t ?_ | refine st_f ?_ | refine st_miss ?_)
    exact a_weak (hKL () (by omega) trivial)
  · repeat (first | refine St.imp ?_ | (refine st_seq ?_; intro K hK) | refine st_t ?_ | refine st_f ?_ | refine st_miss ?_)
    repeat (first | refine St.imp ?_ | (refine st_seq ?_; intro K hK) | refine st_t ?_ | refine st_f ?_ | refine st_miss ?_)
    refine a_val ?_ v_assign
    repeat (first | refine St.imp ?_ | (refine st_seq ?_; intro K hK) | refine st_t ?_ | refine st_f ?_ | refine st_miss ?_)
    first | refine a_ret Try.results17 ?_ | refine a_end Try.results17 ?_
    rfl
theorem eqRead_m (x y : ReadQ) (hxy : x.p = y.p) (w : World) [h1 : Sl w (fpAll []) ints 1 x.acks.l x.acks.a x.acks.c] [h2 : Sl w (fpAll []) ints 1 y.acks.l y.acks.a y.acks.c] : Meets Try.prog 18 [.agg x.enc.toArray, .agg y.enc.toArray] w (fpAll []) (fun v _ => v = .bool true) := by
  obtain ⟨i1, i2, i3, l, a, c⟩ := x
  obtain ⟨j1, j2, j3, l', a', c'⟩ := y
  simp only [ReadQ.p, Read.mk.injEq] at hxy
  obtain ⟨rfl, rfl, rfl, rfl⟩ := hxy
  simp only [ReadQ.enc]
  refine enter tysOK Try.func18 rfl Try.ntmps18 rfl (HeapOK.start w) ?_
  repeat (first | refine St.imp ?_ | (refine st_seq ?_; intro K hK) | refine st_t ?_ | refine st_f ?_ | refine st_miss ?_)
  (refine a_eff ?_ (e_box); rintro _ _ ⟨b1, rfl, rfl⟩)
  (refine a_eff ?_ (e_box); rintro _ _ ⟨b2, rfl, rfl⟩)
  refine a_val ?_ v_assign
  repeat (first | refine St.imp ?_ | (refine st_seq ?_; intro K hK) | refine st_t ?_ | refine st_f ?_ | refine st_miss ?_)
  (first | refine a_val ?_ v_field | refine a_val ?_ v_fieldE | refine a_val ?_ v_field0)
  (first | refine a_val ?_ v_load | refine a_val ?_ v_loadA)
  (first | refine a_val ?_ v_field | refine a_val ?_ v_fieldE | refine a_val ?_ v_field0)
  (first | refine a_val ?_ v_load | refine a_val ?_ v_loadA)
  refine a_val ?_ v_eqlS
  refine a_val ?_ v_move
  (first | refine a_val ?_ v_field | refine a_val ?_ v_fieldE | refine a_val ?_ v_field0 | refine a_skip ?_)
  (first | refine a_val ?_ v_load | refine a_val ?_ v_loadA | refine a_skip ?_)
  (first | refine a_val ?_ v_field | refine a_val ?_ v_fieldE | refine a_val ?_ v_field0 | refine a_skip ?_)
  (first | refine a_val ?_ v_load | refine a_val ?_ v_loadA | refine a_skip ?_)
  (first | refine a_val ?_ v_eqlS | refine a_skip ?_)
  (first | refine a_val ?_ v_pickt | refine a_val ?_ v_pickf)
  refine a_val ?_ v_move
  (first | refine a_val ?_ v_field | refine a_val ?_ v_fieldE | refine a_val ?_ v_field0 | refine a_skip ?_)
  (first | refine a_val ?_ v_load | refine a_val ?_ v_loadA | refine a_skip ?_)
  (first | refine a_val ?_ v_field | refine a_val ?_ v_fieldE | refine a_val ?_ v_field0 | refine a_skip ?_)
  (first | refine a_val ?_ v_load | refine a_val ?_ v_loadA | refine a_skip ?_)
  (first | refine a_val ?_ v_eqlS | refine a_skip ?_)
  (first | refine a_val ?_ v_pickt | refine a_val ?_ v_pickf)
  refine a_val ?_ v_move
  (first | refine a_val ?_ v_field | refine a_val ?_ v_fieldE | refine a_val ?_ v_field0 | refine a_skip ?_)
  (first | refine a_val ?_ v_load | refine a_val ?_ v_loadA | refine a_skip ?_)
  (first | refine a_val ?_ v_field | refine a_val ?_ v_fieldE | refine a_val ?_ v_field0 | refine a_skip ?_)
  (first | refine a_val ?_ v_load | refine a_val ?_ v_loadA | refine a_skip ?_)
  (first | (refine a_eff ?_ (e_callP rfl rfl fun w hw => eqI_m l a a' c c' w); rintro _ _ ⟨rfl, rfl⟩) | refine a_skip ?_)
  (first | refine a_val ?_ v_pickt | refine a_val ?_ v_pickf)
  refine a_val ?_ v_assign
  repeat (first | refine St.imp ?_ | (refine st_seq ?_; intro K hK) | refine st_t ?_ | refine st_f ?_ | refine st_miss ?_)
  first | refine a_ret Try.results18 ?_ | refine a_end Try.results18 ?_
  rfl
theorem eqReads_m (xs ys : List ReadQ) (n : Nat) (hx : xs.length = n) (hy : ys.length = n) (hxy : xs.map ReadQ.p = ys.map ReadQ.p) (A A' : Option Addr) (c c' : Nat) (w : World) [hl : Sl w (fpAll []) ReadQ.enc 4 xs A c] [hl' : Sl w (fpAll []) ReadQ.enc 4 ys A' c'] (ha : ∀ x ∈ xs, Sl w (fpAll []) ints 1 x.acks.l x.acks.a x.acks.c) (ha' : ∀ x ∈ ys, Sl w (fpAll []) ints 1 x.acks.l x.acks.a x.acks.c) : Meets Try.prog 13 [.slice A n c, .slice A' n c'] w (fpAll []) (fun v _ => v = .bool true) := by
  have hn : n ≤ 140737488355328 := by rw [← hx]; exact hl.len
  refine enter tysOK Try.func13 rfl Try.ntmps13 rfl (HeapOK.start w) ?_
  repeat (first | refine St.imp ?_ | (refine st_seq ?_; intro K hK) | refine st_t ?_ | refine st_f ?_ | refine st_miss ?_)
  refine a_val ?_ v_assign
  repeat (first | refine St.imp ?_ | (refine st_seq ?_; intro K hK) | refine st_t ?_ | refine st_f ?_ | refine st_miss ?_)
  refine a_val ?_ v_move
  (first | refine a_val ?_ v_len | refine a_val ?_ v_lenS)
  refine a_val ?_ v_move
  (first | refine a_val ?_ v_len | refine a_val ?_ v_lenS)
  refine a_val ?_ (v_neqS)
  repeat (first | refine St.imp ?_ | (refine st_seq ?_; intro K hK) | refine st_t ?_ | refine st_f ?_ | refine st_miss ?_)
  refine a_val ?_ v_assign
  repeat (first | refine St.imp ?_ | (refine st_seq ?_; intro K hK) | refine st_t ?_ | refine st_f ?_ | refine st_miss ?_)
  refine a_for n (fun i _ => [(5, .int .i64 i), (0, .slice A n c), (1, .slice A' n c')]) (fun _ _ => []) (fun _ _ => True) () trivial ?_
  intro i _ h0 h1 _ KL hKL
  repeat (first | refine St.imp ?_ | (refine st_seq ?_; intro K hK) | refine st_t ?_ | refine st_f ?_ | refine st_miss ?_)
  refine a_val ?_ v_move
  refine a_val ?_ v_move
  (first | refine a_val ?_ v_len | refine a_val ?_ v_lenS)
  refine a_val ?_ v_lss
  repeat (first | refine St.imp ?_ | (refine st_seq ?_; intro K hK) | refine st_t ?_ | refine st_f ?_ | refine st_miss ?_)
  refine a_cond (fun hc => ?_) (fun hc => ?_)
  · have hlt : i < n := by simpa using hc
    obtain ⟨x, hxi⟩ := get_some (l := xs) h0 (by omega)
    obtain ⟨y, hyi⟩ := get_some (l := ys) h0 (by omega)
    have hp : x.p = y.p := by
      have e := congrArg (fun l : List Read => l[i.toNat]?) hxy
      simp only [List.getElem?_map, hxi, hyi, Option.map_some] at e
      injection e
    haveI := ha x (List.mem_of_getElem? hxi)
    haveI := ha' y (List.mem_of_getElem? hyi)
    repeat (first | refine St.imp ?_ | (refine st_seq ?_; intro K hK) | refine st_t ?_ | refine st_f ?_ | refine st_miss ?_)
    repeat (first | refine St.imp ?_ | (refine st_seq ?_; intro K hK) | refine st_t ?_ | refine st_f ?_ | refine st_miss ?_)
    refine a_mix [0, 1, 2, 3, 4, 5, 6, 7, 8, 9] ?_
    refine m_val rfl ?_ v_move
    refine m_val rfl ?_ v_move
    refine m_val rfl ?_ ((v_index (xs := xs.map ReadQ.enc) (hn := by rw [List.length_map]; exact hx)))
    (first | refine m_val rfl ?_ (v_loadE hxi) | refine m_val rfl ?_ (v_loadE0 hxi) | refine m_val rfl ?_ (v_loadEA hxi) | refine m_val rfl ?_ (v_loadEA0 hxi))
    refine m_val rfl ?_ v_move
    refine m_val rfl ?_ v_move
    refine m_val rfl ?_ ((v_index (xs := ys.map ReadQ.enc) (hn := by rw [List.length_map]; exact hy)))
    (first | refine m_val rfl ?_ (v_loadE hyi) | refine m_val rfl ?_ (v_loadE0 hyi) | refine m_val rfl ?_ (v_loadEA hyi) | refine m_val rfl ?_ (v_loadEA0 hyi))
    (refine m_eff rfl ?_ (e_callP rfl rfl fun w hw => eqRead_m x y hp w); rintro _ _ ⟨rfl, rfl⟩; refine m_go ?_)
    refine m_val rfl ?_ v_not
    repeat (first | refine St.imp ?_ | (refine st_seq ?_; intro K hK) | refine st_t ?_ | refine st_f ?_ | refine st_miss ?_)
    refine a_val ?_ v_move
    (first | refine a_val ?_ v_add | refine a_val ?_ v_cat)
    refine a_val ?_ v_assign
    repeat (first | refine St.imp ?_ | (refine st_seq ?_; intro K hK) | refine st_t ?_ | refine st_f ?_ | refine st_miss ?_)
    exact a_weak (hKL () (by omega) trivial)
  · repeat (first | refine St.imp ?_ | (refine st_seq ?_; intro K hK) | refine st_t ?_ | refine st_f ?_ | refine st_miss ?_)
    repeat (first | refine St.imp ?_ | (refine st_seq ?_; intro K hK) | refine st_t ?_ | refine st_f ?_ | refine st_miss ?_)
    refine a_val ?_ v_assign
    repeat (first | refine St.imp ?_ | (refine st_seq ?_; intro K hK) | refine st_t ?_ | refine st_f ?_ | refine st_miss ?_)
    first | refine a_ret Try.results13 ?_ | refine a_end Try.results13 ?_
    rfl
theorem eqLog_m (lb lt : Int) (l : List Ent) (a a' : Option Addr) (c c' : Nat) (w : World) [h1 : Sl w (fpAll []) Ent.enc 3 l a c] [h2 : Sl w (fpAll []) Ent.enc 3 l a' c'] : Meets Try.prog 11 [.agg (LogQ.enc ⟨lb, lt, ⟨l, a, c⟩⟩).toArray, .agg (LogQ.enc ⟨lb, lt, ⟨l, a', c'⟩⟩).toArray] w (fpAll []) (fun v _ => v = .bool true) := by
  simp only [LogQ.enc]
  refine enter tysOK Try.func11 rfl Try.ntmps11 rfl (HeapOK.start w) ?_
  repeat (first | refine St.imp ?_ | (refine st_seq ?_; intro K hK) | refine st_t ?_ | refine st_f ?_ | refine st_miss ?_)
  (refine a_eff ?_ (e_box); rintro _ _ ⟨b1, rfl, rfl⟩)
  (refine a_eff ?_ (e_box); rintro _ _ ⟨b2, rfl, rfl⟩)
  refine a_val ?_ v_assign
  repeat (first | refine St.imp ?_ | (refine st_seq ?_; intro K hK) | refine st_t ?_ | refine st_f ?_ | refine st_miss ?_)
  (first | refine a_val ?_ v_field | refine a_val ?_ v_fieldE | refine a_val ?_ v_field0)
  (first | refine a_val ?_ v_load | refine a_val ?_ v_loadA)
  (first | refine a_val ?_ v_field | refine a_val ?_ v_fieldE | refine a_val ?_ v_field0)
  (first | refine a_val ?_ v_load | refine a_val ?_ v_loadA)
  refine a_val ?_ v_eqlS
  refine a_val ?_ v_move
  (first | refine a_val ?_ v_field | refine a_val ?_ v_fieldE | refine a_val ?_ v_field0 | refine a_skip ?_)
  (first | refine a_val ?_ v_load | refine a_val ?_ v_loadA | refine a_skip ?_)
  (first | refine a_val ?_ v_field | refine a_val ?_ v_fieldE | refine a_val ?_ v_field0 | refine a_skip ?_)
  (first | refine a_val ?_ v_load | refine a_val ?_ v_loadA | refine a_skip ?_)
  (first | refine a_val ?_ v_eqlS | refine a_skip ?_)
  (first | refine a_val ?_ v_pickt | refine a_val ?_ v_pickf)
  refine a_val ?_ v_move
  (first | refine a_val ?_ v_field | refine a_val ?_ v_fieldE | refine a_val ?_ v_field0 | refine a_skip ?_)
  (first | refine a_val ?_ v_load | refine a_val ?_ v_loadA | refine a_skip ?_)
  (first | refine a_val ?_ v_field | refine a_val ?_ v_fieldE | refine a_val ?_ v_field0 | refine a_skip ?_)
  (first | refine a_val ?_ v_load | refine a_val ?_ v_loadA | refine a_skip ?_)
  (first | (refine a_eff ?_ (e_callP rfl rfl fun w hw => eqE_m l a a' c c' w); rintro _ _ ⟨rfl, rfl⟩) | refine a_skip ?_)
  (first | refine a_val ?_ v_pickt | refine a_val ?_ v_pickf)
  refine a_val ?_ v_assign
  repeat (first | refine St.imp ?_ | (refine st_seq ?_; intro K hK) | refine st_t ?_ | refine st_f ?_ | refine st_miss ?_)
  first | refine a_ret Try.results11 ?_ | refine a_end Try.results11 ?_
  rfl
theorem num_m (x : Int) (w : World) : Meets Try.prog 6 [.int .i64 x] w (fpAll []) (fun v _ => v = .int .i64 x) := by
  refine enter tysOK Try.func6 rfl Try.ntmps6 rfl (HeapOK.start w) ?_
  repeat (first | refine St.imp ?_ | (refine st_seq ?_; intro K hK) | refine st_t ?_ | refine st_f ?_ | refine st_miss ?_)
  refine a_val ?_ v_assign
  repeat (first | refine St.imp ?_ | (refine st_seq ?_; intro K hK) | refine st_t ?_ | refine st_f ?_ | refine st_miss ?_)
  refine a_val ?_ v_move
  refine a_val ?_ v_assign
  repeat (first | refine St.imp ?_ | (refine st_seq ?_; intro K hK) | refine st_t ?_ | refine st_f ?_ | refine st_miss ?_)
  first | refine a_ret Try.results6 ?_ | refine a_end Try.results6 ?_
  rfl
theorem newRef_m (id nodes seed : Int) (w : World) : Meets Try.prog 4 [.int .i64 id, .int .i64 nodes, .int .u64 seed] w (fpAll []) (fun v As => v = .agg (newQ id nodes seed).enc.toArray ∧ As = []) := by
  refine enter tysOK Try.func4 rfl Try.ntmps4 rfl (HeapOK.start w) ?_
  repeat (first | refine St.imp ?_ | (refine st_seq ?_; intro K hK) | refine st_t ?_ | refine st_f ?_ | refine st_miss ?_)
  (refine a_eff ?_ (e_alloc); rintro _ _ ⟨bz, rfl, rfl⟩)
  repeat (first | refine St.imp ?_ | (refine st_seq ?_; intro K hK) | refine st_t ?_ | refine st_f ?_ | refine st_miss ?_)
  refine a_val ?_ v_move
  refine a_val ?_ v_move
  refine a_val ?_ v_move
  refine a_val ?_ (v_build (vs := (newQ0 id nodes seed).enc))
  refine a_val ?_ ((v_build (vs := (newQ0 id nodes seed).enc ++ [.slice none 0 0]) (hf := fill_head (s := 22) (z := zeroR) (z2 := [.slice none 0 0]) rfl rfl)))
  (refine a_eff ?_ ((e_box (cs := (newQ0 id nodes seed).enc ++ [.slice none 0 0]) (hc := rfl))); rintro _ _ ⟨b, rfl, rfl⟩)
  refine a_val ?_ v_assign
  repeat (first | refine St.imp ?_ | (refine st_seq ?_; intro K hK) | refine st_t ?_ | refine st_f ?_ | refine st_miss ?_)
  refine a_castL (Cs := [blkR b (newQ0 id nodes seed) [.slice none 0 0] 44, .blk bz zeroR 32]) ?_ rfl
  repeat (first | refine St.imp ?_ | (refine st_seq ?_; intro K hK) | refine st_t ?_ | refine st_f ?_ | refine st_miss ?_)
  refine a_val ?_ v_move
  (refine a_eff ?_ (e_callO [blkR b (newQ0 id nodes seed) [.slice none 0 0] 44] rfl rfl fun w hw hb => draws_m b (newQ0 id nodes seed) [.slice none 0 0] 44 w hb); rintro _ _ ⟨_, ⟨rfl, rfl⟩, rfl⟩; simp only [List.cons_append, List.nil_append])
  repeat (first | refine St.imp ?_ | (refine st_seq ?_; intro K hK) | refine st_t ?_ | refine st_f ?_ | refine st_miss ?_)
  refine a_val ?_ v_move
  (first | refine a_val ?_ v_nilCheck | refine a_val ?_ v_nilCheckF)
  (first | refine a_val ?_ v_field | refine a_val ?_ v_fieldE | refine a_val ?_ v_field0)
  refine a_val ?_ (v_loadA (vs := (newQ id nodes seed).enc))
  (refine a_effn ?_ ((e_storeW (vs := (newQ id nodes seed).enc))); rintro _ _ rfl)
  repeat (first | refine St.imp ?_ | (refine st_seq ?_; intro K hK) | refine st_t ?_ | refine st_f ?_ | refine st_miss ?_)
  first | refine a_retP ([] : List Atom) Try.results4 ?_ | refine a_endP ([] : List Atom) Try.results4 ?_
  exact ⟨rfl, rfl⟩
end Go.Proofs.Ytaclpbkbjmbceaa

/-
  RaftNew: the law's function answers true.
-/
import Derived.Test.YtaclpbkbjmbceaaRz
set_option linter.unusedVariables false
set_option linter.unusedSimpArgs false
set_option maxRecDepth 100000
set_option maxHeartbeats 4000000
namespace Go.Proofs.Ytaclpbkbjmbceaa
open Go.Eng
abbrev nenc (x : Int × Int × Int) : List Value := [.int .i64 x.1, .int .i64 x.2.1, .int .u64 x.2.2]
abbrev zeroQ : RaftQ := ⟨0, 0, 0, 0, 0, 0, ⟨0, 0, nilE⟩, noB, 0, 0, 0, 0, nilI, nilI, nilI, nilI, 0, nilR, noB, 0⟩
theorem sl_nil {α : Type} {enc : α → List Value} {s : Nat} (hs : 0 < s) (el : TypeId) (w : World) : Sl w (fpAll []) enc s ([] : List α) none 0 := by
  haveI : HeapOK w (fpAll []) [.row (.slice none 0 0) el s (([] : List α).map enc)] w := HeapOK.nilrow (HeapOK.start (F0 := fpAll []) w) el s
  haveI : Pos s := ⟨hs⟩
  haveI : LenC ([] : List α) := ⟨Nat.zero_le _⟩
  exact sl_row (el := el) (n := 0)
theorem raftAt_new (i n e t sd : Int) (w : World) : RaftAt w (fpAll []) ⟨i, n, 0, 0, 0, 0, ⟨0, 0, nilE⟩, noB, 0, e, t, sd, nilI, nilI, nilI, nilI, 0, nilR, noB, 0⟩ :=
  ⟨⟨sl_nil (by decide) 0 w⟩, sl_nil (by decide) 0 w, sl_nil (by decide) 0 w, sl_nil (by decide) 0 w, sl_nil (by decide) 0 w, ⟨sl_nil (by decide) 0 w, fun x hx => by cases hx⟩⟩
theorem newGood_m (id nodes seed : Int) (h : newOK id nodes) (w : World) : Meets Try.prog 5 [.int .i64 id, .int .i64 nodes, .int .u64 seed] w (fpAll []) (fun v _ => v = .tuple #[.agg (newQ id nodes seed).enc.toArray, .int .i64 0]) :=
  (new_m id nodes seed w).mono fun v As h2 => by
    rcases h2 with ⟨h2, _⟩ | ⟨_, h2, _⟩
    · exact absurd h h2
    · exact h2
theorem newBad_m (id nodes seed : Int) (h : ¬ newOK id nodes) (w : World) : Meets Try.prog 5 [.int .i64 id, .int .i64 nodes, .int .u64 seed] w (fpAll []) (fun v _ => v = .tuple #[.agg zeroR.toArray, .int .i64 1]) :=
  (new_m id nodes seed w).mono fun v As h2 => by
    rcases h2 with ⟨_, h2, _⟩ | ⟨h2, _⟩
    · exact h2
    · exact absurd h2 h
theorem eqNew_m (id nodes seed : Int) (w : World) : Meets Try.prog 7 [.agg (newQ id nodes seed).enc.toArray, .agg (newQ id nodes seed).enc.toArray] w (fpAll []) (fun v _ => v = .bool true) := by
  haveI := raftAt_new id nodes 0 (10 + (nextU seed).tmod 10) (nextU seed) w
  exact eqRaft_m (newQ id nodes seed) (newQ id nodes seed) rfl w
theorem eqZero_m (w : World) : Meets Try.prog 7 [.agg zeroR.toArray, .agg zeroR.toArray] w (fpAll []) (fun v _ => v = .bool true) := by
  haveI := raftAt_new 0 0 0 0 0 w
  exact eqRaft_m zeroQ zeroQ rfl w
theorem raftNew_m (l : List (Int × Int × Int)) (A : Option Addr) (c : Nat) (w : World) [hl : Sl w (fpAll []) nenc 3 l A c] : Meets Try.prog 3 [.slice A l.length c] w (fpAll []) (fun v _ => v = .bool true) := by
  have hlen := hl.len
  refine enter tysOK Try.func3 rfl Try.ntmps3 rfl (HeapOK.start w) ?_
  repeat (first | refine St.imp ?_ | (refine st_seq ?_; intro K hK) | refine st_t ?_ | refine st_f ?_ | refine st_miss ?_)
  refine a_val ?_ v_assign
  repeat (first | refine St.imp ?_ | (refine st_seq ?_; intro K hK) | refine st_t ?_ | refine st_f ?_ | refine st_miss ?_)
  refine a_val ?_ v_assign
  repeat (first | refine St.imp ?_ | (refine st_seq ?_; intro K hK) | refine st_t ?_ | refine st_f ?_ | refine st_miss ?_)
  refine a_loop (σ := Nat) (fun i => [(3, .int .i64 i), (0, .slice A l.length c)]) (fun _ => []) (fun i => i ≤ 30) (fun i => 30 - i) 0 (by decide) ?_
  intro i hi KL hKL
  repeat (first | refine St.imp ?_ | (refine st_seq ?_; intro K hK) | refine st_t ?_ | refine st_f ?_ | refine st_miss ?_)
  refine a_val ?_ v_move
  refine a_val ?_ v_move
  (first | refine a_val ?_ v_len | refine a_val ?_ v_lenS)
  refine a_val ?_ v_lss
  refine a_val ?_ v_move
  refine a_case (fun hg => ?_) (fun hg => ?_)
  · have hlt : i < l.length := by have := of_decide_eq_true hg; omega
    (first | refine a_val ?_ v_move | refine a_skip ?_)
    (first | refine a_val ?_ v_lss | refine a_skip ?_)
    (first | refine a_val ?_ v_pickt | refine a_val ?_ v_pickf)
    repeat (first | refine St.imp ?_ | (refine st_seq ?_; intro K hK) | refine st_t ?_ | refine st_f ?_ | refine st_miss ?_)
    refine a_cond (fun hc => ?_) (fun hc => ?_)
    · have h30 : i < 30 := by have := of_decide_eq_true hc; omega
      obtain ⟨x, hx⟩ := get_some (l := l) (j := (i : Int)) (by omega) (by omega)
      repeat (first | refine St.imp ?_ | (refine st_seq ?_; intro K hK) | refine st_t ?_ | refine st_f ?_ | refine st_miss ?_)
      repeat (first | refine St.imp ?_ | (refine st_seq ?_; intro K hK) | refine st_t ?_ | refine st_f ?_ | refine st_miss ?_)
      refine a_val ?_ v_move
      refine a_val ?_ v_move
      (first | refine a_val ?_ v_index | refine a_val ?_ v_indexB)
      (first | refine a_val ?_ v_load | refine a_val ?_ v_loadA | refine a_val ?_ (v_loadE hx) | refine a_val ?_ (v_loadE0 hx) | refine a_val ?_ (v_loadEA hx) | refine a_val ?_ (v_loadEA0 hx))
      simp only [nenc]
      (refine a_eff ?_ (e_alloc); rintro _ _ ⟨b4, rfl, rfl⟩)
      (first | (refine a_effn ?_ e_store; rintro _ _ rfl) | (refine a_effn ?_ e_storeW; rintro _ _ rfl) | (refine a_effn ?_ e_storeA; rintro _ _ rfl) | (refine a_effn ?_ (e_storeE hx); rintro _ _ rfl) | (refine a_effn ?_ (e_storeE0 hx); rintro _ _ rfl))
      repeat (first | refine St.imp ?_ | (refine st_seq ?_; intro K hK) | refine st_t ?_ | refine st_f ?_ | refine st_miss ?_)
      refine a_val ?_ v_assign
      repeat (first | refine St.imp ?_ | (refine st_seq ?_; intro K hK) | refine st_t ?_ | refine st_f ?_ | refine st_miss ?_)
      (refine a_eff ?_ (e_alloc); rintro _ _ ⟨b6, rfl, rfl⟩)
      repeat (first | refine St.imp ?_ | (refine st_seq ?_; intro K hK) | refine st_t ?_ | refine st_f ?_ | refine st_miss ?_)
      (first | refine a_val ?_ v_field | refine a_val ?_ v_fieldE | refine a_val ?_ v_field0)
      (first | refine a_val ?_ v_load | refine a_val ?_ v_loadA | refine a_val ?_ (v_loadE hx) | refine a_val ?_ (v_loadE0 hx) | refine a_val ?_ (v_loadEA hx) | refine a_val ?_ (v_loadEA0 hx))
      refine a_val ?_ v_geq
      refine a_val ?_ v_move
      refine a_join 16 [(42, .bool (decide (newOK x.1 x.2.1))), (3, .int .i64 i), (0, .slice A l.length c), (4, .pointer (some ⟨b4, 0, none⟩)), (5, .int .i64 1), (6, .pointer (some ⟨b6, 0, none⟩))] [.blk b4 (nenc x) 25, .blk b6 zeroR 32] (fun J => ?_) ?_
      · refine a_case (fun hg4 => ?_) (fun hg4 => ?_)
        · have hg4 := of_decide_eq_true hg4
          (first | refine a_val ?_ v_field | refine a_val ?_ v_fieldE | refine a_val ?_ v_field0 | refine a_skip ?_)
          (first | refine a_val ?_ v_load | refine a_val ?_ v_loadA | refine a_val ?_ (v_loadE hx) | refine a_val ?_ (v_loadE0 hx) | refine a_val ?_ (v_loadEA hx) | refine a_val ?_ (v_loadEA0 hx) | refine a_skip ?_)
          (first | refine a_val ?_ v_leq | refine a_skip ?_)
          (first | refine a_val ?_ v_pickt | refine a_val ?_ v_pickf)
          refine a_val ?_ v_move
          refine a_case (fun hg9 => ?_) (fun hg9 => ?_)
          · have hg9 := of_decide_eq_true hg9
            (first | refine a_val ?_ v_field | refine a_val ?_ v_fieldE | refine a_val ?_ v_field0 | refine a_skip ?_)
            (first | refine a_val ?_ v_load | refine a_val ?_ v_loadA | refine a_val ?_ (v_loadE hx) | refine a_val ?_ (v_loadE0 hx) | refine a_val ?_ (v_loadEA hx) | refine a_val ?_ (v_loadEA0 hx) | refine a_skip ?_)
            (first | refine a_val ?_ v_geq | refine a_skip ?_)
            (first | refine a_val ?_ v_pickt | refine a_val ?_ v_pickf)
            refine a_val ?_ v_move
            refine a_case (fun hg14 => ?_) (fun hg14 => ?_)
            · have hg14 := of_decide_eq_true hg14
              have e1 : decide (newOK x.1 x.2.1) = decide (x.1 ≤ x.2.1) := decide_eq_decide.2 ⟨fun h => h.2.2.2, fun h => ⟨hg4, hg9, hg14, h⟩⟩
              rw [e1] at J
              (first | refine a_val ?_ v_field | refine a_val ?_ v_fieldE | refine a_val ?_ v_field0 | refine a_skip ?_)
              (first | refine a_val ?_ v_load | refine a_val ?_ v_loadA | refine a_val ?_ (v_loadE hx) | refine a_val ?_ (v_loadE0 hx) | refine a_val ?_ (v_loadEA hx) | refine a_val ?_ (v_loadEA0 hx) | refine a_skip ?_)
              (first | refine a_val ?_ v_field | refine a_val ?_ v_fieldE | refine a_val ?_ v_field0 | refine a_skip ?_)
              (first | refine a_val ?_ v_load | refine a_val ?_ v_loadA | refine a_val ?_ (v_loadE hx) | refine a_val ?_ (v_loadE0 hx) | refine a_val ?_ (v_loadEA hx) | refine a_val ?_ (v_loadEA0 hx) | refine a_skip ?_)
              (first | refine a_val ?_ v_leq | refine a_skip ?_)
              refine a_val ?_ v_pickt
              exact a_weakL J
            · have hg14 := of_decide_eq_false hg14
              have e1 : decide (newOK x.1 x.2.1) = false := decide_eq_false (by omega)
              rw [e1] at J
              (first | refine a_val ?_ v_field | refine a_val ?_ v_fieldE | refine a_val ?_ v_field0 | refine a_skip ?_)
              (first | refine a_val ?_ v_load | refine a_val ?_ v_loadA | refine a_val ?_ (v_loadE hx) | refine a_val ?_ (v_loadE0 hx) | refine a_val ?_ (v_loadEA hx) | refine a_val ?_ (v_loadEA0 hx) | refine a_skip ?_)
              (first | refine a_val ?_ v_field | refine a_val ?_ v_fieldE | refine a_val ?_ v_field0 | refine a_skip ?_)
              (first | refine a_val ?_ v_load | refine a_val ?_ v_loadA | refine a_val ?_ (v_loadE hx) | refine a_val ?_ (v_loadE0 hx) | refine a_val ?_ (v_loadEA hx) | refine a_val ?_ (v_loadEA0 hx) | refine a_skip ?_)
              (first | refine a_val ?_ v_leq | refine a_skip ?_)
              refine a_val ?_ v_pickf
              exact a_weakL J
          · have hg9 := of_decide_eq_false hg9
            have e1 : decide (newOK x.1 x.2.1) = false := decide_eq_false (by omega)
            rw [e1] at J
            (first | refine a_val ?_ v_field | refine a_val ?_ v_fieldE | refine a_val ?_ v_field0 | refine a_skip ?_)
            (first | refine a_val ?_ v_load | refine a_val ?_ v_loadA | refine a_val ?_ (v_loadE hx) | refine a_val ?_ (v_loadE0 hx) | refine a_val ?_ (v_loadEA hx) | refine a_val ?_ (v_loadEA0 hx) | refine a_skip ?_)
            (first | refine a_val ?_ v_geq | refine a_skip ?_)
            (first | refine a_val ?_ v_pickt | refine a_val ?_ v_pickf)
            refine a_val ?_ v_move
            (first | refine a_val ?_ v_field | refine a_val ?_ v_fieldE | refine a_val ?_ v_field0 | refine a_skip ?_)
            (first | refine a_val ?_ v_load | refine a_val ?_ v_loadA | refine a_val ?_ (v_loadE hx) | refine a_val ?_ (v_loadE0 hx) | refine a_val ?_ (v_loadEA hx) | refine a_val ?_ (v_loadEA0 hx) | refine a_skip ?_)
            (first | refine a_val ?_ v_field | refine a_val ?_ v_fieldE | refine a_val ?_ v_field0 | refine a_skip ?_)
            (first | refine a_val ?_ v_load | refine a_val ?_ v_loadA | refine a_val ?_ (v_loadE hx) | refine a_val ?_ (v_loadE0 hx) | refine a_val ?_ (v_loadEA hx) | refine a_val ?_ (v_loadEA0 hx) | refine a_skip ?_)
            (first | refine a_val ?_ v_leq | refine a_skip ?_)
            refine a_val ?_ v_pickf
            exact a_weakL J
        · have hg4 := of_decide_eq_false hg4
          have e1 : decide (newOK x.1 x.2.1) = false := decide_eq_false (by omega)
          rw [e1] at J
          (first | refine a_val ?_ v_field | refine a_val ?_ v_fieldE | refine a_val ?_ v_field0 | refine a_skip ?_)
          (first | refine a_val ?_ v_load | refine a_val ?_ v_loadA | refine a_val ?_ (v_loadE hx) | refine a_val ?_ (v_loadE0 hx) | refine a_val ?_ (v_loadEA hx) | refine a_val ?_ (v_loadEA0 hx) | refine a_skip ?_)
          (first | refine a_val ?_ v_leq | refine a_skip ?_)
          (first | refine a_val ?_ v_pickt | refine a_val ?_ v_pickf)
          refine a_val ?_ v_move
          (first | refine a_val ?_ v_field | refine a_val ?_ v_fieldE | refine a_val ?_ v_field0 | refine a_skip ?_)
          (first | refine a_val ?_ v_load | refine a_val ?_ v_loadA | refine a_val ?_ (v_loadE hx) | refine a_val ?_ (v_loadE0 hx) | refine a_val ?_ (v_loadEA hx) | refine a_val ?_ (v_loadEA0 hx) | refine a_skip ?_)
          (first | refine a_val ?_ v_geq | refine a_skip ?_)
          (first | refine a_val ?_ v_pickt | refine a_val ?_ v_pickf)
          refine a_val ?_ v_move
          (first | refine a_val ?_ v_field | refine a_val ?_ v_fieldE | refine a_val ?_ v_field0 | refine a_skip ?_)
          (first | refine a_val ?_ v_load | refine a_val ?_ v_loadA | refine a_val ?_ (v_loadE hx) | refine a_val ?_ (v_loadE0 hx) | refine a_val ?_ (v_loadEA hx) | refine a_val ?_ (v_loadEA0 hx) | refine a_skip ?_)
          (first | refine a_val ?_ v_field | refine a_val ?_ v_fieldE | refine a_val ?_ v_field0 | refine a_skip ?_)
          (first | refine a_val ?_ v_load | refine a_val ?_ v_loadA | refine a_val ?_ (v_loadE hx) | refine a_val ?_ (v_loadE0 hx) | refine a_val ?_ (v_loadEA hx) | refine a_val ?_ (v_loadEA0 hx) | refine a_skip ?_)
          (first | refine a_val ?_ v_leq | refine a_skip ?_)
          refine a_val ?_ v_pickf
          exact a_weakL J
      refine tl_nil ?_
      repeat (first | refine St.imp ?_ | (refine st_seq ?_; intro K hK) | refine st_t ?_ | refine st_f ?_ | refine st_miss ?_)
      refine a_cond (fun hc => ?_) (fun hc => ?_)
      · have hok : newOK x.1 x.2.1 := of_decide_eq_true hc
        repeat (first | refine St.imp ?_ | (refine st_seq ?_; intro K hK) | refine st_t ?_ | refine st_f ?_ | refine st_miss ?_)
        (first | refine a_val ?_ v_field | refine a_val ?_ v_fieldE | refine a_val ?_ v_field0)
        (first | refine a_val ?_ v_load | refine a_val ?_ v_loadA | refine a_val ?_ (v_loadE hx) | refine a_val ?_ (v_loadE0 hx) | refine a_val ?_ (v_loadEA hx) | refine a_val ?_ (v_loadEA0 hx))
        (first | refine a_val ?_ v_field | refine a_val ?_ v_fieldE | refine a_val ?_ v_field0)
        (first | refine a_val ?_ v_load | refine a_val ?_ v_loadA | refine a_val ?_ (v_loadE hx) | refine a_val ?_ (v_loadE0 hx) | refine a_val ?_ (v_loadEA hx) | refine a_val ?_ (v_loadEA0 hx))
        (first | refine a_val ?_ v_field | refine a_val ?_ v_fieldE | refine a_val ?_ v_field0)
        (first | refine a_val ?_ v_load | refine a_val ?_ v_loadA | refine a_val ?_ (v_loadE hx) | refine a_val ?_ (v_loadE0 hx) | refine a_val ?_ (v_loadEA hx) | refine a_val ?_ (v_loadEA0 hx))
        (refine a_eff ?_ (e_callN rfl rfl fun w hw => newRef_m x.1 x.2.1 x.2.2 w); rintro _ _ ⟨_, ⟨rfl, rfl⟩, rfl⟩; simp only [List.cons_append, List.nil_append])
        (refine a_effn ?_ ((e_storeW (vs := (newQ x.1 x.2.1 x.2.2).enc))); rintro _ _ rfl)
        refine a_val ?_ v_assign
        repeat (first | refine St.imp ?_ | (refine st_seq ?_; intro K hK) | refine st_t ?_ | refine st_f ?_ | refine st_miss ?_)
        (first | refine a_val ?_ v_field | refine a_val ?_ v_fieldE | refine a_val ?_ v_field0)
        (first | refine a_val ?_ v_load | refine a_val ?_ v_loadA | refine a_val ?_ (v_loadE hx) | refine a_val ?_ (v_loadE0 hx) | refine a_val ?_ (v_loadEA hx) | refine a_val ?_ (v_loadEA0 hx))
        (first | refine a_val ?_ v_field | refine a_val ?_ v_fieldE | refine a_val ?_ v_field0)
        (first | refine a_val ?_ v_load | refine a_val ?_ v_loadA | refine a_val ?_ (v_loadE hx) | refine a_val ?_ (v_loadE0 hx) | refine a_val ?_ (v_loadEA hx) | refine a_val ?_ (v_loadEA0 hx))
        (first | refine a_val ?_ v_field | refine a_val ?_ v_fieldE | refine a_val ?_ v_field0)
        (first | refine a_val ?_ v_load | refine a_val ?_ v_loadA | refine a_val ?_ (v_loadE hx) | refine a_val ?_ (v_loadE0 hx) | refine a_val ?_ (v_loadEA hx) | refine a_val ?_ (v_loadEA0 hx))
        (refine a_eff ?_ (e_callP rfl rfl fun w hw => newGood_m x.1 x.2.1 x.2.2 hok w); rintro _ _ ⟨rfl, rfl⟩)
        refine a_val ?_ v_move
        refine a_val ?_ v_extract
        refine a_val ?_ v_extract
        (refine a_eff ?_ (e_alloc); rintro _ _ ⟨b7, rfl, rfl⟩)
        (refine a_effn ?_ ((e_storeW (vs := (newQ x.1 x.2.1 x.2.2).enc))); rintro _ _ rfl)
        refine a_val ?_ v_assign
        repeat (first | refine St.imp ?_ | (refine st_seq ?_; intro K hK) | refine st_t ?_ | refine st_f ?_ | refine st_miss ?_)
        refine a_val ?_ v_move
        (refine a_eff ?_ (e_callP rfl rfl fun w hw => num_m 0 w); rintro _ _ ⟨rfl, rfl⟩)
        refine a_val ?_ v_move
        refine a_val ?_ (v_neqS)
        refine a_val ?_ v_move
        (first | refine a_val ?_ (v_loadA (vs := (newQ x.1 x.2.1 x.2.2).enc)) | refine a_skip ?_)
        (first | refine a_val ?_ (v_loadA (vs := (newQ x.1 x.2.1 x.2.2).enc)) | refine a_skip ?_)
        (first | (refine a_eff ?_ (e_callP rfl rfl fun w hw => eqNew_m x.1 x.2.1 x.2.2 w); rintro _ _ ⟨rfl, rfl⟩) | refine a_skip ?_)
        (first | refine a_val ?_ v_not | refine a_skip ?_)
        (first | refine a_val ?_ v_pickt | refine a_val ?_ v_pickf)
        repeat (first | refine St.imp ?_ | (refine st_seq ?_; intro K hK) | refine st_t ?_ | refine st_f ?_ | refine st_miss ?_)
        refine a_val ?_ v_move
        (first | refine a_val ?_ v_add | refine a_val ?_ v_cat)
        refine a_val ?_ v_assign
        repeat (first | refine St.imp ?_ | (refine st_seq ?_; intro K hK) | refine st_t ?_ | refine st_f ?_ | refine st_miss ?_)
        exact a_weak (hKL (i + 1) (by omega) (by omega))
      · have hno : ¬ newOK x.1 x.2.1 := of_decide_eq_false hc
        repeat (first | refine St.imp ?_ | (refine st_seq ?_; intro K hK) | refine st_t ?_ | refine st_f ?_ | refine st_miss ?_)
        repeat (first | refine St.imp ?_ | (refine st_seq ?_; intro K hK) | refine st_t ?_ | refine st_f ?_ | refine st_miss ?_)
        (first | refine a_val ?_ v_field | refine a_val ?_ v_fieldE | refine a_val ?_ v_field0)
        (first | refine a_val ?_ v_load | refine a_val ?_ v_loadA | refine a_val ?_ (v_loadE hx) | refine a_val ?_ (v_loadE0 hx) | refine a_val ?_ (v_loadEA hx) | refine a_val ?_ (v_loadEA0 hx))
        (first | refine a_val ?_ v_field | refine a_val ?_ v_fieldE | refine a_val ?_ v_field0)
        (first | refine a_val ?_ v_load | refine a_val ?_ v_loadA | refine a_val ?_ (v_loadE hx) | refine a_val ?_ (v_loadE0 hx) | refine a_val ?_ (v_loadEA hx) | refine a_val ?_ (v_loadEA0 hx))
        (first | refine a_val ?_ v_field | refine a_val ?_ v_fieldE | refine a_val ?_ v_field0)
        (first | refine a_val ?_ v_load | refine a_val ?_ v_loadA | refine a_val ?_ (v_loadE hx) | refine a_val ?_ (v_loadE0 hx) | refine a_val ?_ (v_loadEA hx) | refine a_val ?_ (v_loadEA0 hx))
        (refine a_eff ?_ (e_callP rfl rfl fun w hw => newBad_m x.1 x.2.1 x.2.2 hno w); rintro _ _ ⟨rfl, rfl⟩)
        refine a_val ?_ v_move
        refine a_val ?_ v_extract
        refine a_val ?_ v_extract
        (refine a_eff ?_ (e_alloc); rintro _ _ ⟨b7, rfl, rfl⟩)
        (refine a_effn ?_ ((e_storeW (vs := zeroR))); rintro _ _ rfl)
        refine a_val ?_ v_assign
        repeat (first | refine St.imp ?_ | (refine st_seq ?_; intro K hK) | refine st_t ?_ | refine st_f ?_ | refine st_miss ?_)
        refine a_val ?_ v_move
        (refine a_eff ?_ (e_callP rfl rfl fun w hw => num_m 1 w); rintro _ _ ⟨rfl, rfl⟩)
        refine a_val ?_ v_move
        refine a_val ?_ (v_neqS)
        refine a_val ?_ v_move
        (first | refine a_val ?_ (v_loadA (vs := zeroR)) | refine a_skip ?_)
        (first | refine a_val ?_ (v_loadA (vs := zeroR)) | refine a_skip ?_)
        (first | (refine a_eff ?_ (e_callP rfl rfl fun w hw => eqZero_m w); rintro _ _ ⟨rfl, rfl⟩) | refine a_skip ?_)
        (first | refine a_val ?_ v_not | refine a_skip ?_)
        (first | refine a_val ?_ v_pickt | refine a_val ?_ v_pickf)
        repeat (first | refine St.imp ?_ | (refine st_seq ?_; intro K hK) | refine st_t ?_ | refine st_f ?_ | refine st_miss ?_)
        refine a_val ?_ v_move
        (first | refine a_val ?_ v_add | refine a_val ?_ v_cat)
        refine a_val ?_ v_assign
        repeat (first | refine St.imp ?_ | (refine st_seq ?_; intro K hK) | refine st_t ?_ | refine st_f ?_ | refine st_miss ?_)
        exact a_weak (hKL (i + 1) (by omega) (by omega))
    · repeat (first | refine St.imp ?_ | (refine st_seq ?_; intro K hK) | refine st_t ?_ | refine st_f ?_ | refine st_miss ?_)
      repeat (first | refine St.imp ?_ | (refine st_seq ?_; intro K hK) | refine st_t ?_ | refine st_f ?_ | refine st_miss ?_)
      (refine a_eff ?_ (e_callP rfl rfl fun w hw => wakes_m w); rintro _ _ ⟨rfl, rfl⟩)
      refine a_val ?_ v_assign
      repeat (first | refine St.imp ?_ | (refine st_seq ?_; intro K hK) | refine st_t ?_ | refine st_f ?_ | refine st_miss ?_)
      first | refine a_ret Try.results3 ?_ | refine a_end Try.results3 ?_
      rfl
  · repeat (first | refine a_skip ?_ | refine a_skipn ?_ | refine a_val ?_ v_pickt | refine a_val ?_ v_pickf | refine a_val ?_ v_move | refine a_val ?_ v_assign | refine St.imp ?_ | refine st_t ?_ | refine st_f ?_ | refine st_miss ?_ | (refine st_seq ?_; intro K hK))
    repeat (first | refine St.imp ?_ | (refine st_seq ?_; intro K hK) | refine st_t ?_ | refine st_f ?_ | refine st_miss ?_)
    (refine a_eff ?_ (e_callP rfl rfl fun w hw => wakes_m w); rintro _ _ ⟨rfl, rfl⟩)
    refine a_val ?_ v_assign
    repeat (first | refine St.imp ?_ | (refine st_seq ?_; intro K hK) | refine st_t ?_ | refine st_f ?_ | refine st_miss ?_)
    first | refine a_ret Try.results3 ?_ | refine a_end Try.results3 ?_
    rfl
end Go.Proofs.Ytaclpbkbjmbceaa

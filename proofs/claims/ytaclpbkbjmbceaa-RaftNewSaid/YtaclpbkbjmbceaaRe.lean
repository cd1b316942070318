/-
  RAFT: for all others; what is sent; votes counted.
-/
import Derived.Test.YtaclpbkbjmbceaaRd
set_option linter.unusedVariables false
set_option linter.unusedSimpArgs false
set_option maxRecDepth 100000
set_option maxHeartbeats 2000000
namespace Go.Proofs.Ytaclpbkbjmbceaa
open Go.Eng
theorem others_snoc (R : Raft) (g : Int → List Msg) : ∀ (n : Nat) (k : Int), R.others g (n + 1) k = R.others g n k ++ (if k + n = R.id then [] else g (k + n))
  | 0, k => by simp [Raft.others]
  | n + 1, k => by
    rw [Raft.others, others_snoc R g n (k + 1), Raft.others]
    have : k + 1 + (n : Int) = k + ((n + 1 : Nat) : Int) := by omega
    rw [this, List.append_assoc]
theorem others_len (R : Raft) (g : Int → List Msg) (hg : ∀ k, (g k).length ≤ 1) : ∀ (n : Nat) (k : Int), (R.others g n k).length ≤ n
  | 0, k => by simp [Raft.others]
  | n + 1, k => by
    have h1 := others_len R g hg n (k + 1)
    have h2 : (if k = R.id then [] else g k).length ≤ 1 := by split <;> simp [hg]
    rw [Raft.others, List.length_append]
    omega
theorem others_m (b : Nat) (R : RaftQ) (out : At MsgQ) (u : TypeId) (fid : FuncId) (xs ys : List Value) (g : Int → List Msg) (hg : ∀ k, (g k).length ≤ 1) (hn : 1 ≤ R.nodes ∧ R.nodes ≤ 7) (hlen : out.l.length ≤ 1000) (w : World) (hb : HeapOK w (fpAll (stepB b R out u)) (stepB b R out u) w) [hok : OkC Try.prog fid]
    (hdo : ∀ (k : Int) (o : At MsgQ) (w' : World), 1 ≤ k → k ≤ R.nodes → k ≠ R.id → o.l.length ≤ 2000 → HeapOK w (fpAll (stepB b R out u)) (stepB b R o u) w' → HeapOK w' (fpAll (stepB b R o u)) (stepB b R o u) w' → Meets Try.prog fid (xs ++ [.int .i64 k] ++ ys) w' (fpAll (stepB b R o u)) (fun v As => v = .tuple #[] ∧ ∃ o' : At MsgQ, o'.l.map MsgQ.p = o.l.map MsgQ.p ++ g k ∧ As = stepB b R o' u)) :
    Meets Try.prog 22 [ptrB b, .func (.func fid) xs.toArray ys.toArray] w (fpAll (stepB b R out u)) (fun v As => v = .tuple #[] ∧ ∃ o' : At MsgQ, o'.l.map MsgQ.p = out.l.map MsgQ.p ++ R.p.all g ∧ As = stepB b R o' u) := by
  refine enter tysOK Try.func22 rfl Try.ntmps22 rfl (hb) ?_
  repeat (first | refine St.imp ?_ | (refine st_seq ?_; intro K hK) | refine st_t ?_ | refine st_f ?_ | refine st_miss ?_)
  refine a_val ?_ v_assign
  repeat (first | refine St.imp ?_ | (refine st_seq ?_; intro K hK) | refine st_t ?_ | refine st_f ?_ | refine st_miss ?_)
  refine a_loop (σ := Int × At MsgQ) (fun s => [(4, .int .i64 s.1), (0, ptrB b), (1, .func (.func fid) xs.toArray ys.toArray)]) (fun s => stepB b R s.2 u) (fun s => 1 ≤ s.1 ∧ s.1 ≤ R.nodes + 1 ∧ s.2.l.map MsgQ.p = out.l.map MsgQ.p ++ R.p.others g (s.1 - 1).toNat 1) (fun s => (R.nodes + 1 - s.1).toNat) (1, out) ⟨by simp, by simp; omega, by simp [Raft.others]⟩ ?_
  rintro ⟨k, o⟩ ⟨h1, h2, h3⟩ KL hKL
  simp only at h1 h2 h3
  have hlo : o.l.length ≤ 2000 := by
    have e1 := congrArg List.length h3
    have e2 := others_len R.p g hg (k - 1).toNat 1
    simp only [List.length_map, List.length_append] at e1
    omega
  have hst : R.p.others g (k + 1 - 1).toNat 1 = R.p.others g (k - 1).toNat 1 ++ (if k = R.id then [] else g k) := by
    have e1 : (k + 1 - 1).toNat = (k - 1).toNat + 1 := by omega
    have e2 : (1 : Int) + ((k - 1).toNat : Int) = k := by omega
    rw [e1, others_snoc, e2]
  repeat (first | refine St.imp ?_ | (refine st_seq ?_; intro K hK) | refine st_t ?_ | refine st_f ?_ | refine st_miss ?_)
  refine a_val ?_ v_move
  refine a_val ?_ v_move
  (first | refine a_val ?_ v_nilCheck | refine a_val ?_ v_nilCheckF)
  (first | refine a_val ?_ v_field | refine a_val ?_ v_fieldE | refine a_val ?_ v_field0)
  (first | refine a_val ?_ v_field | refine a_val ?_ v_fieldE | refine a_val ?_ v_field0)
  (first | refine a_val ?_ v_field | refine a_val ?_ v_fieldE | refine a_val ?_ v_field0)
  (first | refine a_val ?_ v_load | refine a_val ?_ v_loadA)
  refine a_val ?_ v_leq
  repeat (first | refine St.imp ?_ | (refine st_seq ?_; intro K hK) | refine st_t ?_ | refine st_f ?_ | refine st_miss ?_)
  refine a_cond (fun hc => ?_) (fun hc => ?_)
  · have hk : k ≤ R.nodes := by simpa using hc
    repeat (first | refine St.imp ?_ | (refine st_seq ?_; intro K hK) | refine st_t ?_ | refine st_f ?_ | refine st_miss ?_)
    repeat (first | refine St.imp ?_ | (refine st_seq ?_; intro K hK) | refine st_t ?_ | refine st_f ?_ | refine st_miss ?_)
    refine a_val ?_ v_move
    refine a_val ?_ v_move
    (first | refine a_val ?_ v_nilCheck | refine a_val ?_ v_nilCheckF)
    (first | refine a_val ?_ v_field | refine a_val ?_ v_fieldE | refine a_val ?_ v_field0)
    (first | refine a_val ?_ v_field | refine a_val ?_ v_fieldE | refine a_val ?_ v_field0)
    (first | refine a_val ?_ v_field | refine a_val ?_ v_fieldE | refine a_val ?_ v_field0)
    (first | refine a_val ?_ v_load | refine a_val ?_ v_loadA)
    (first | refine a_val ?_ v_neq | refine a_val ?_ v_sneq | refine a_val ?_ v_bneq | refine a_val ?_ v_notNil)
    repeat (first | refine St.imp ?_ | (refine st_seq ?_; intro K hK) | refine st_t ?_ | refine st_f ?_ | refine st_miss ?_)
    refine a_cond (fun hc => ?_) (fun hc => ?_)
    · have hne : k ≠ R.id := by simpa using hc
      repeat (first | refine St.imp ?_ | (refine st_seq ?_; intro K hK) | refine st_t ?_ | refine st_f ?_ | refine st_miss ?_)
      refine a_val ?_ v_move
      refine a_val ?_ v_move
      (refine a_eff ?_ (e_callO (stepB b R o u) rfl rfl fun w hw hb => hdo k o w h1 hk hne hlo hw hb); rintro _ _ ⟨_, ⟨rfl, o', ho', rfl⟩, rfl⟩; simp only [List.cons_append, List.nil_append])
      repeat (first | refine St.imp ?_ | (refine st_seq ?_; intro K hK) | refine st_t ?_ | refine st_f ?_ | refine st_miss ?_)
      refine a_val ?_ v_move
      (first | refine a_val ?_ v_add | refine a_val ?_ v_cat)
      refine a_val ?_ v_assign
      repeat (first | refine St.imp ?_ | (refine st_seq ?_; intro K hK) | refine st_t ?_ | refine st_f ?_ | refine st_miss ?_)
      exact a_weak (hKL (k + 1, o') ⟨by simp only; omega, by simp only; omega, by simp only; rw [ho', h3, hst, if_neg hne, List.append_assoc]⟩ (by simp only; omega))
    · have heq : k = R.id := by simpa using hc
      repeat (first | refine St.imp ?_ | (refine st_seq ?_; intro K hK) | refine st_t ?_ | refine st_f ?_ | refine st_miss ?_)
      refine a_val ?_ v_move
      (first | refine a_val ?_ v_add | refine a_val ?_ v_cat)
      refine a_val ?_ v_assign
      repeat (first | refine St.imp ?_ | (refine st_seq ?_; intro K hK) | refine st_t ?_ | refine st_f ?_ | refine st_miss ?_)
      exact a_weak (hKL (k + 1, o) ⟨by simp only; omega, by simp only; omega, by simp only; rw [h3, hst, if_pos heq, List.append_nil]⟩ (by simp only; omega))
  · have hk : ¬ k ≤ R.nodes := by simpa using hc
    repeat (first | refine St.imp ?_ | (refine st_seq ?_; intro K hK) | refine st_t ?_ | refine st_f ?_ | refine st_miss ?_)
    first | refine a_ret Try.results22 ?_ | refine a_end Try.results22 ?_
    refine ⟨rfl, o, ?_, rfl⟩
    rw [h3, Raft.all]
    have : (k - 1).toNat = R.nodes.toNat := by omega
    rw [this]
def idxF (x : Int) : List Int → Int → Int
  | [], _ => -1
  | y :: r, i => if x = y then i else idxF x r (i + 1)
theorem idxF_nn (x : Int) : ∀ (l : List Int) (i : Int), 0 ≤ i → (0 ≤ idxF x l i ↔ l.contains x = true)
  | [], i, _ => by simp [idxF]
  | y :: r, i, h => by
    unfold idxF
    by_cases e : x = y
    · simp [e, h]
    · rw [if_neg e, idxF_nn x r (i + 1) (by omega)]
      simp [e]
theorem index_m (x : Int) (l : List Int) (A : Option Addr) (c : Nat) (w : World) [hl : Sl w (fpAll []) ints 1 l A c] : Meets Try.prog 54 [.slice A l.length c, .int .i64 x] w (fpAll []) (fun v _ => v = .int .i64 (idxF x l 0)) := by
  refine enter tysOK Try.func54 rfl Try.ntmps54 rfl (HeapOK.start w) ?_
  have hlen := hl.len
  repeat (first | refine St.imp ?_ | (refine st_seq ?_; intro K hK) | refine st_t ?_ | refine st_f ?_ | refine st_miss ?_)
  refine a_val ?_ v_assign
  repeat (first | refine St.imp ?_ | (refine st_seq ?_; intro K hK) | refine st_t ?_ | refine st_f ?_ | refine st_miss ?_)
  refine a_val ?_ v_move
  (first | refine a_val ?_ v_len | refine a_val ?_ v_lenS)
  refine a_val ?_ v_move
  repeat (first | refine St.imp ?_ | (refine st_seq ?_; intro K hK) | refine st_t ?_ | refine st_f ?_ | refine st_miss ?_)
  refine a_for l.length (fun j _ => [(7, .int .i64 l.length), (8, .int .i64 j), (0, .slice A l.length c), (1, .int .i64 x)]) (fun _ _ => []) (fun j _ => idxF x l 0 = idxF x (l.drop j.toNat) j) () (by simp) ?_
  intro j _ h0 h1 hr KL hKL
  repeat (first | refine St.imp ?_ | (refine st_seq ?_; intro K hK) | refine st_t ?_ | refine st_f ?_ | refine st_miss ?_)
  refine a_val ?_ v_lss
  repeat (first | refine St.imp ?_ | (refine st_seq ?_; intro K hK) | refine st_t ?_ | refine st_f ?_ | refine st_miss ?_)
  refine a_cond (fun hc => ?_) (fun hc => ?_)
  · have hlt : j < l.length := by simpa using hc
    obtain ⟨y, hy⟩ := get_some (l := l) h0 hlt
    have hstep : idxF x (l.drop j.toNat) j = if x = y then j else idxF x (l.drop (j.toNat + 1)) (j + 1) := by
      have h2 : j.toNat < l.length := by omega
      have h3 : l[j.toNat] = y := by rw [List.getElem?_eq_getElem h2] at hy; injection hy
      rw [List.drop_eq_getElem_cons h2, h3, idxF]
    repeat (first | refine St.imp ?_ | (refine st_seq ?_; intro K hK) | refine st_t ?_ | refine st_f ?_ | refine st_miss ?_)
    repeat (first | refine St.imp ?_ | (refine st_seq ?_; intro K hK) | refine st_t ?_ | refine st_f ?_ | refine st_miss ?_)
    refine a_val ?_ v_move
    refine a_val ?_ v_assign
    repeat (first | refine St.imp ?_ | (refine st_seq ?_; intro K hK) | refine st_t ?_ | refine st_f ?_ | refine st_miss ?_)
    refine a_val ?_ v_move
    refine a_val ?_ v_move
    refine a_val ?_ v_move
    (first | refine a_val ?_ v_index | refine a_val ?_ v_indexB)
    (first | refine a_val ?_ v_load | refine a_val ?_ v_loadA | refine a_val ?_ (v_loadE hy) | refine a_val ?_ (v_loadE0 hy) | refine a_val ?_ (v_loadEA hy) | refine a_val ?_ (v_loadEA0 hy))
    (first | refine a_val ?_ v_eql | refine a_val ?_ v_seql | refine a_val ?_ v_beql | refine a_val ?_ v_isNil)
    repeat (first | refine St.imp ?_ | (refine st_seq ?_; intro K hK) | refine st_t ?_ | refine st_f ?_ | refine st_miss ?_)
    refine a_cond (fun hc => ?_) (fun hc => ?_)
    · repeat (first | refine St.imp ?_ | (refine st_seq ?_; intro K hK) | refine st_t ?_ | refine st_f ?_ | refine st_miss ?_)
      refine a_val ?_ v_move
      refine a_val ?_ v_assign
      repeat (first | refine St.imp ?_ | (refine st_seq ?_; intro K hK) | refine st_t ?_ | refine st_f ?_ | refine st_miss ?_)
      first | refine a_ret Try.results54 ?_ | refine a_end Try.results54 ?_
      rw [hr, hstep, if_pos (by simpa using hc)]
    · repeat (first | refine St.imp ?_ | (refine st_seq ?_; intro K hK) | refine st_t ?_ | refine st_f ?_ | refine st_miss ?_)
      (first | refine a_val ?_ v_add | refine a_val ?_ v_cat)
      refine a_val ?_ v_move
      repeat (first | refine St.imp ?_ | (refine st_seq ?_; intro K hK) | refine st_t ?_ | refine st_f ?_ | refine st_miss ?_)
      exact a_weak (hKL () (by omega) (by rw [hr, hstep, if_neg (by simpa using hc), show (j + 1).toNat = j.toNat + 1 by omega]))
  · repeat (first | refine St.imp ?_ | (refine st_seq ?_; intro K hK) | refine st_t ?_ | refine st_f ?_ | refine st_miss ?_)
    refine a_val ?_ v_assign
    repeat (first | refine St.imp ?_ | (refine st_seq ?_; intro K hK) | refine st_t ?_ | refine st_f ?_ | refine st_miss ?_)
    first | refine a_ret Try.results54 ?_ | refine a_end Try.results54 ?_
    have : ¬ j < l.length := by simpa using hc
    rw [hr, List.drop_of_length_le (by omega), idxF]
theorem contains_m (x : Int) (l : List Int) (A : Option Addr) (c : Nat) (w : World) [hl : Sl w (fpAll []) ints 1 l A c] : Meets Try.prog 48 [.slice A l.length c, .int .i64 x] w (fpAll []) (fun v _ => v = .bool (l.contains x)) := by
  refine enter tysOK Try.func48 rfl Try.ntmps48 rfl (HeapOK.start w) ?_
  repeat (first | refine St.imp ?_ | (refine st_seq ?_; intro K hK) | refine st_t ?_ | refine st_f ?_ | refine st_miss ?_)
  refine a_val ?_ v_assign
  repeat (first | refine St.imp ?_ | (refine st_seq ?_; intro K hK) | refine st_t ?_ | refine st_f ?_ | refine st_miss ?_)
  refine a_val ?_ v_move
  refine a_val ?_ v_move
  (refine a_eff ?_ (e_callP rfl rfl fun w hw => index_m _ _ _ _ w); rintro _ _ ⟨rfl, rfl⟩)
  refine a_val ?_ v_geq
  refine a_val ?_ v_assign
  repeat (first | refine St.imp ?_ | (refine st_seq ?_; intro K hK) | refine st_t ?_ | refine st_f ?_ | refine st_miss ?_)
  first | refine a_ret Try.results48 ?_ | refine a_end Try.results48 ?_
  have h := idxF_nn x l 0 (Int.le_refl _)
  cases hx : l.contains x with
  | true => simp [h.2 hx]
  | false =>
    have : ¬ 0 ≤ idxF x l 0 := fun h2 => by rw [h.1 h2] at hx; cases hx
    simp [this]
theorem most_m (n : Int) (l : List Int) (A : Option Addr) (c : Nat) (w : World) [hl : Sl w (fpAll []) ints 1 l A c] (hn : 0 ≤ n ∧ n ≤ 100) : Meets Try.prog 44 [.int .i64 n, .slice A l.length c] w (fpAll []) (fun v _ => v = .bool (enoughB n l)) := by
  have hcl : ∀ j : Nat, (List.range j).countP (fun (i : Nat) => l.contains ((i : Int) + 1)) ≤ j := fun j => by have := List.countP_le_length (l := List.range j) (p := fun (i : Nat) => l.contains ((i : Int) + 1)); simpa using this
  refine enter tysOK Try.func44 rfl Try.ntmps44 rfl (HeapOK.start w) ?_
  repeat (first | refine St.imp ?_ | (refine st_seq ?_; intro K hK) | refine st_t ?_ | refine st_f ?_ | refine st_miss ?_)
  refine a_val ?_ v_assign
  repeat (first | refine St.imp ?_ | (refine st_seq ?_; intro K hK) | refine st_t ?_ | refine st_f ?_ | refine st_miss ?_)
  refine a_val ?_ v_assign
  repeat (first | refine St.imp ?_ | (refine st_seq ?_; intro K hK) | refine st_t ?_ | refine st_f ?_ | refine st_miss ?_)
  refine a_val ?_ v_assign
  repeat (first | refine St.imp ?_ | (refine st_seq ?_; intro K hK) | refine st_t ?_ | refine st_f ?_ | refine st_miss ?_)
  refine a_for n.toNat (fun j _ => [(5, .int .i64 ((List.range j.toNat).countP (fun (i : Nat) => l.contains ((i : Int) + 1)))), (6, .int .i64 (j + 1)), (0, .int .i64 n), (1, .slice A l.length c)]) (fun _ _ => []) (fun _ _ => True) () trivial ?_
  intro j _ h0 h1 _ KL hKL
  have hcj := hcl j.toNat
  have hst : (List.range (j + 1).toNat).countP (fun (i : Nat) => l.contains ((i : Int) + 1)) = (List.range j.toNat).countP (fun (i : Nat) => l.contains ((i : Int) + 1)) + (if l.contains (j + 1) = true then 1 else 0) := by
    rw [show (j + 1).toNat = j.toNat + 1 by omega, List.range_succ, List.countP_append]
    simp only [List.countP_cons, List.countP_nil]
    rw [show ((j.toNat : Nat) : Int) = j by omega]
    simp
  repeat (first | refine St.imp ?_ | (refine st_seq ?_; intro K hK) | refine st_t ?_ | refine st_f ?_ | refine st_miss ?_)
  refine a_val ?_ v_move
  refine a_val ?_ v_move
  refine a_val ?_ v_leq
  repeat (first | refine St.imp ?_ | (refine st_seq ?_; intro K hK) | refine st_t ?_ | refine st_f ?_ | refine st_miss ?_)
  refine a_cond (fun hc => ?_) (fun hc => ?_)
  · have hlt : j + 1 ≤ n := by simpa using hc
    have h := hKL () (by omega) trivial
    rw [hst] at h
    repeat (first | refine St.imp ?_ | (refine st_seq ?_; intro K hK) | refine st_t ?_ | refine st_f ?_ | refine st_miss ?_)
    repeat (first | refine St.imp ?_ | (refine st_seq ?_; intro K hK) | refine st_t ?_ | refine st_f ?_ | refine st_miss ?_)
    refine a_val ?_ v_move
    refine a_val ?_ v_move
    (refine a_eff ?_ (e_callP rfl rfl fun w hw => contains_m _ _ _ _ w); rintro _ _ ⟨rfl, rfl⟩)
    repeat (first | refine St.imp ?_ | (refine st_seq ?_; intro K hK) | refine st_t ?_ | refine st_f ?_ | refine st_miss ?_)
    refine a_cond (fun hc => ?_) (fun hc => ?_)
    · rw [if_pos hc] at h
      repeat (first | refine St.imp ?_ | (refine st_seq ?_; intro K hK) | refine st_t ?_ | refine st_f ?_ | refine st_miss ?_)
      refine a_val ?_ v_move
      (first | refine a_val ?_ v_add | refine a_val ?_ v_cat)
      refine a_val ?_ v_assign
      repeat (first | refine St.imp ?_ | (refine st_seq ?_; intro K hK) | refine st_t ?_ | refine st_f ?_ | refine st_miss ?_)
      refine a_val ?_ v_move
      (first | refine a_val ?_ v_add | refine a_val ?_ v_cat)
      refine a_val ?_ v_assign
      repeat (first | refine St.imp ?_ | (refine st_seq ?_; intro K hK) | refine st_t ?_ | refine st_f ?_ | refine st_miss ?_)
      exact a_weak h
    · rw [if_neg (by simpa using hc)] at h
      repeat (first | refine St.imp ?_ | (refine st_seq ?_; intro K hK) | refine st_t ?_ | refine st_f ?_ | refine st_miss ?_)
      refine a_val ?_ v_move
      (first | refine a_val ?_ v_add | refine a_val ?_ v_cat)
      refine a_val ?_ v_assign
      repeat (first | refine St.imp ?_ | (refine st_seq ?_; intro K hK) | refine st_t ?_ | refine st_f ?_ | refine st_miss ?_)
      exact a_weak h
  · have hj : j.toNat = n.toNat := by have : ¬ j + 1 ≤ n := by simpa using hc
                                      omega
    rw [hj] at hcj ⊢
    repeat (first | refine St.imp ?_ | (refine st_seq ?_; intro K hK) | refine st_t ?_ | refine st_f ?_ | refine st_miss ?_)
    refine a_val ?_ v_move
    refine a_val ?_ v_mul
    refine a_val ?_ v_move
    refine a_val ?_ v_gtr
    refine a_val ?_ v_assign
    repeat (first | refine St.imp ?_ | (refine st_seq ?_; intro K hK) | refine st_t ?_ | refine st_f ?_ | refine st_miss ?_)
    first | refine a_ret Try.results44 ?_ | refine a_end Try.results44 ?_
    rfl
end Go.Proofs.Ytaclpbkbjmbceaa

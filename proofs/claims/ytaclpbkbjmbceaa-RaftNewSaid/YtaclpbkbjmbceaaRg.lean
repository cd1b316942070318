/-
  RAFT: slices.Repeat of one number.
-/
import Derived.Test.YtaclpbkbjmbceaaRf
import Derived.Test.YtaclpbkbjmbceaaEngW
set_option linter.unusedVariables false
set_option linter.unusedSimpArgs false
set_option maxRecDepth 100000
set_option maxHeartbeats 2000000
namespace Go.Proofs.Ytaclpbkbjmbceaa
open Go.Eng
theorem mul64_m (n : Int) (h : 1 ≤ n ∧ n ≤ 7) (w : World) : Meets Try.prog 59 [.int .u64 1, .int .u64 n] w (fpAll []) (fun v _ => v = .tuple #[.int .u64 0, .int .u64 n]) := by
  refine enter tysOK Try.func59 rfl Try.ntmps59 rfl (HeapOK.start w) ?_
  repeat (first | refine St.imp ?_ | (refine st_seq ?_; intro K hK) | refine st_t ?_ | refine st_f ?_ | refine st_miss ?_)
  refine a_val ?_ v_assign
  refine a_val ?_ v_assign
  repeat (first | refine St.imp ?_ | (refine st_seq ?_; intro K hK) | refine st_t ?_ | refine st_f ?_ | refine st_miss ?_)
  refine a_val ?_ v_move
  refine a_val ?_ v_and
  refine a_val ?_ v_assign
  repeat (first | refine St.imp ?_ | (refine st_seq ?_; intro K hK) | refine st_t ?_ | refine st_f ?_ | refine st_miss ?_)
  refine a_val ?_ v_move
  refine a_val ?_ v_shr
  refine a_val ?_ v_assign
  repeat (first | refine St.imp ?_ | (refine st_seq ?_; intro K hK) | refine st_t ?_ | refine st_f ?_ | refine st_miss ?_)
  refine a_val ?_ v_move
  refine a_val ?_ v_and
  refine a_val ?_ v_assign
  repeat (first | refine St.imp ?_ | (refine st_seq ?_; intro K hK) | refine st_t ?_ | refine st_f ?_ | refine st_miss ?_)
  refine a_val ?_ v_move
  refine a_val ?_ v_shr
  refine a_val ?_ v_assign
  repeat (first | refine St.imp ?_ | (refine st_seq ?_; intro K hK) | refine st_t ?_ | refine st_f ?_ | refine st_miss ?_)
  refine a_val ?_ v_move
  refine a_val ?_ v_move
  refine a_val ?_ (v_mulW)
  refine a_val ?_ v_assign
  repeat (first | refine St.imp ?_ | (refine st_seq ?_; intro K hK) | refine st_t ?_ | refine st_f ?_ | refine st_miss ?_)
  refine a_val ?_ v_move
  refine a_val ?_ v_move
  refine a_val ?_ (v_mulW)
  refine a_val ?_ v_move
  refine a_val ?_ v_shr
  refine a_val ?_ (v_addW)
  refine a_val ?_ v_assign
  repeat (first | refine St.imp ?_ | (refine st_seq ?_; intro K hK) | refine st_t ?_ | refine st_f ?_ | refine st_miss ?_)
  refine a_val ?_ v_move
  refine a_val ?_ v_and
  refine a_val ?_ v_assign
  repeat (first | refine St.imp ?_ | (refine st_seq ?_; intro K hK) | refine st_t ?_ | refine st_f ?_ | refine st_miss ?_)
  refine a_val ?_ v_move
  refine a_val ?_ v_shr
  refine a_val ?_ v_assign
  repeat (first | refine St.imp ?_ | (refine st_seq ?_; intro K hK) | refine st_t ?_ | refine st_f ?_ | refine st_miss ?_)
  refine a_val ?_ v_move
  refine a_val ?_ v_move
  refine a_val ?_ v_move
  refine a_val ?_ (v_mulW)
  refine a_val ?_ (v_addW)
  refine a_val ?_ v_assign
  repeat (first | refine St.imp ?_ | (refine st_seq ?_; intro K hK) | refine st_t ?_ | refine st_f ?_ | refine st_miss ?_)
  refine a_val ?_ v_move
  refine a_val ?_ v_move
  refine a_val ?_ (v_mulW)
  refine a_val ?_ v_move
  refine a_val ?_ (v_addW)
  refine a_val ?_ v_move
  refine a_val ?_ v_shr
  refine a_val ?_ (v_addW)
  refine a_val ?_ v_assign
  repeat (first | refine St.imp ?_ | (refine st_seq ?_; intro K hK) | refine st_t ?_ | refine st_f ?_ | refine st_miss ?_)
  refine a_val ?_ v_move
  refine a_val ?_ v_move
  refine a_val ?_ (v_mulW)
  refine a_val ?_ v_assign
  repeat (first | refine St.imp ?_ | (refine st_seq ?_; intro K hK) | refine st_t ?_ | refine st_f ?_ | refine st_miss ?_)
  first | refine a_ret Try.results59 ?_ | refine a_end Try.results59 ?_
  have h7 : n = 1 ∨ n = 2 ∨ n = 3 ∨ n = 4 ∨ n = 5 ∨ n = 6 ∨ n = 7 := by omega
  rcases h7 with rfl | rfl | rfl | rfl | rfl | rfl | rfl <;> rfl
theorem mul_m (n : Int) (h : 1 ≤ n ∧ n ≤ 7) (w : World) : Meets Try.prog 55 [.int .u64 1, .int .u64 n] w (fpAll []) (fun v _ => v = .tuple #[.int .u64 0, .int .u64 n]) := by
  refine enter tysOK Try.func55 rfl Try.ntmps55 rfl (HeapOK.start w) ?_
  repeat (first | refine St.imp ?_ | (refine st_seq ?_; intro K hK) | refine st_t ?_ | refine st_f ?_ | refine st_miss ?_)
  refine a_val ?_ v_assign
  refine a_val ?_ v_assign
  repeat (first | refine St.imp ?_ | (refine st_seq ?_; intro K hK) | refine st_t ?_ | refine st_f ?_ | refine st_miss ?_)
  refine a_val ?_ v_move
  refine a_val ?_ v_move
  (refine a_eff ?_ (e_callP rfl rfl fun w hw => mul64_m n h w); rintro _ _ ⟨rfl, rfl⟩)
  refine a_val ?_ v_move
  refine a_val ?_ v_extract
  refine a_val ?_ v_extract
  refine a_val ?_ v_assign
  refine a_val ?_ v_assign
  repeat (first | refine St.imp ?_ | (refine st_seq ?_; intro K hK) | refine st_t ?_ | refine st_f ?_ | refine st_miss ?_)
  refine a_val ?_ v_move
  refine a_val ?_ v_move
  refine a_val ?_ v_assign
  refine a_val ?_ v_assign
  repeat (first | refine St.imp ?_ | (refine st_seq ?_; intro K hK) | refine st_t ?_ | refine st_f ?_ | refine st_miss ?_)
  first | refine a_ret Try.results55 ?_ | refine a_end Try.results55 ?_
  rfl
theorem repeat_m (g : Nat) (u : TypeId) (x n : Int) (h : 1 ≤ n ∧ n ≤ 7) (w : World) [hs : Sl w (fpAll []) ints 1 [x] (some ⟨g, 0, none⟩) 1] : Meets Try.prog 51 [.slice (some ⟨g, 0, none⟩) 1 1, .int .i64 n] w (fpAll []) (fun v As => ∃ y : At Int, y.l = List.replicate n.toNat x ∧ v = y.v ∧ As = [rowI y]) := by
  refine enter tysOK Try.func51 rfl Try.ntmps51 rfl (HeapOK.start w) ?_
  repeat (first | refine St.imp ?_ | (refine st_seq ?_; intro K hK) | refine st_t ?_ | refine st_f ?_ | refine st_miss ?_)
  refine a_val ?_ v_assign
  repeat (first | refine St.imp ?_ | (refine st_seq ?_; intro K hK) | refine st_t ?_ | refine st_f ?_ | refine st_miss ?_)
  refine a_val ?_ v_move
  refine a_val ?_ v_lss
  repeat (first | refine St.imp ?_ | (refine st_seq ?_; intro K hK) | refine st_t ?_ | refine st_f ?_ | refine st_miss ?_)
  refine a_cond (fun hc => ?_) (fun hc => ?_)
  · exact absurd hc (by simp; omega)
  repeat (first | refine St.imp ?_ | (refine st_seq ?_; intro K hK) | refine st_t ?_ | refine st_f ?_ | refine st_miss ?_)
  have e1 : IntKind.u64.wrap n = n := by rw [IntKind.wrap_u64]; omega
  repeat (first | refine St.imp ?_ | (refine st_seq ?_; intro K hK) | refine st_t ?_ | refine st_f ?_ | refine st_miss ?_)
  refine a_val ?_ v_move
  (first | refine a_val ?_ v_len | refine a_val ?_ v_lenS)
  refine a_val ?_ v_convert
  refine a_val ?_ v_move
  refine a_val ?_ v_convert
  rw [e1]
  (refine a_eff ?_ (e_callP rfl rfl fun w hw => mul_m n h w); rintro _ _ ⟨rfl, rfl⟩)
  refine a_val ?_ v_move
  refine a_val ?_ v_extract
  refine a_val ?_ v_extract
  refine a_val ?_ v_assign
  refine a_val ?_ v_assign
  repeat (first | refine St.imp ?_ | (refine st_seq ?_; intro K hK) | refine st_t ?_ | refine st_f ?_ | refine st_miss ?_)
  refine a_val ?_ v_move
  refine a_val ?_ v_gtr
  refine a_val ?_ v_move
  (first | refine a_val ?_ v_move | refine a_skip ?_)
  (first | refine a_val ?_ v_gtr | refine a_skip ?_)
  (first | refine a_val ?_ v_pickt | refine a_val ?_ v_pickf)
  repeat (first | refine St.imp ?_ | (refine st_seq ?_; intro K hK) | refine st_t ?_ | refine st_f ?_ | refine st_miss ?_)
  refine a_cond (fun hc => ?_) (fun hc => ?_)
  · exact absurd hc (by simp; omega)
  repeat (first | refine St.imp ?_ | (refine st_seq ?_; intro K hK) | refine st_t ?_ | refine st_f ?_ | refine st_miss ?_)
  have e2 : IntKind.i64.wrap n = n := by rw [IntKind.wrap_i64]; omega
  obtain ⟨N, rfl⟩ : ∃ N : Nat, n = N := ⟨n.toNat, by omega⟩
  repeat (first | refine St.imp ?_ | (refine st_seq ?_; intro K hK) | refine st_t ?_ | refine st_f ?_ | refine st_miss ?_)
  refine a_val ?_ v_move
  refine a_val ?_ v_convert
  rw [e2]
  (refine a_eff ?_ (e_make (hb := by show _ * 8 ≤ _ ∧ _; constructor <;> omega)); rintro _ _ ⟨gz, rfl, rfl⟩)
  refine a_val ?_ v_assign
  repeat (first | refine St.imp ?_ | (refine st_seq ?_; intro K hK) | refine st_t ?_ | refine st_f ?_ | refine st_miss ?_)
  have hz : ∀ k : Nat, List.replicate k ty3.zero = (List.replicate k (0 : Int)).map ints := fun k => by rw [List.map_replicate]
  rw [hz, Int.toNat_natCast]
  repeat (first | refine St.imp ?_ | (refine st_seq ?_; intro K hK) | refine st_t ?_ | refine st_f ?_ | refine st_miss ?_)
  refine a_val ?_ v_move
  refine a_val ?_ v_move
  (refine a_eff ?_ ((e_copyM (enc := ints) (l := List.replicate N 0) (zs := [x]) (dl := N) (sl := 1) 0 (fun w hw => hw.rd hs.rd) rfl (by simp only [List.length_singleton]; omega) (by simp; omega) (.inl (by simp)))); rintro _ _ ⟨rfl, rfl⟩)
  refine a_val ?_ v_assign
  repeat (first | refine St.imp ?_ | (refine st_seq ?_; intro K hK) | refine st_t ?_ | refine st_f ?_ | refine st_miss ?_)
  refine a_loop (σ := Nat) (fun m => [(8, .int .i64 m), (7, .slice (some ⟨gz, 0, none⟩) N N)]) (fun m => [.row (.slice (some ⟨gz, 0, none⟩) N N) 3 1 ((List.replicate m x ++ List.replicate (N - m) 0).map ints)]) (fun m => 1 ≤ m ∧ m ≤ N) (fun m => N - m) 1 ⟨by omega, by omega⟩ ?_ (ha0 := by
    have e3 : List.take 0 (List.replicate N (0 : Int)) ++ [x] ++ List.drop (0 + [x].length) (List.replicate N 0) = List.replicate 1 x ++ List.replicate (N - 1) 0 := by simp
    rw [e3]
    exact Ent.refl)
  rintro m ⟨h1, h2⟩ KL hKL
  repeat (first | refine St.imp ?_ | (refine st_seq ?_; intro K hK) | refine st_t ?_ | refine st_f ?_ | refine st_miss ?_)
  refine a_val ?_ v_move
  refine a_val ?_ v_move
  (first | refine a_val ?_ v_len | refine a_val ?_ v_lenS)
  refine a_val ?_ v_lss
  repeat (first | refine St.imp ?_ | (refine st_seq ?_; intro K hK) | refine st_t ?_ | refine st_f ?_ | refine st_miss ?_)
  refine a_cond (fun hc => ?_) (fun hc => ?_)
  · have hlt : m < N := by simp at hc; omega
    repeat (first | refine St.imp ?_ | (refine st_seq ?_; intro K hK) | refine st_t ?_ | refine st_f ?_ | refine st_miss ?_)
    have hc1 : cutA (some ⟨gz, 0, none⟩) 1 N m = some ⟨gz, m * 1, none⟩ := cut_lt hlt
    have hc0 : cutA (some ⟨gz, 0, none⟩) 1 N 0 = some ⟨gz, 0 * 1, none⟩ := cut_lt (by omega)
    have hzs : List.replicate (min m (N - m)) x = (List.replicate m x ++ List.replicate (N - m) (0 : Int)).take (min m (N - m)) := by
      rw [List.take_append_of_le_length (by simp; omega), List.take_replicate]
      congr 1
      omega
    have hnew : (List.replicate m x ++ List.replicate (N - m) (0 : Int)).take m ++ List.replicate (min m (N - m)) x ++ (List.replicate m x ++ List.replicate (N - m) (0 : Int)).drop (m + (List.replicate (min m (N - m)) x).length) = List.replicate (m + min m (N - m)) x ++ List.replicate (N - (m + min m (N - m))) 0 := by
      have e4 : (List.replicate m x ++ List.replicate (N - m) (0 : Int)).take m = List.replicate m x := by
        rw [List.take_append_of_le_length (by simp), List.take_replicate, Nat.min_self]
      have e5 : (List.replicate m x ++ List.replicate (N - m) (0 : Int)).drop (m + (List.replicate (min m (N - m)) x).length) = List.replicate (N - (m + min m (N - m))) 0 := by
        rw [List.length_replicate, List.drop_append, List.drop_eq_nil_of_le (by simp), List.nil_append, List.length_replicate, List.drop_replicate]
        congr 1
        omega
      rw [e4, e5, List.replicate_append_replicate]
    have e8 : (List.replicate (min m (N - m)) x).length = min m (N - m) := by simp
    repeat (first | refine St.imp ?_ | (refine st_seq ?_; intro K hK) | refine st_t ?_ | refine st_f ?_ | refine st_miss ?_)
    refine a_mixC [] [0, 1, 2, 3, 4, 5, 6, 7, 8, 9] [] ?_
    refine m_val rfl ?_ v_move
    refine m_val rfl ?_ v_move
    refine m_val rfl ?_ v_move
    (first | refine m_val rfl ?_ v_sliceLo | refine m_val rfl ?_ v_sliceHi | refine m_val rfl ?_ v_sliceLH | refine m_val rfl ?_ v_cutLo | refine m_val rfl ?_ v_cutHi | refine m_val rfl ?_ v_cutLH | refine m_val rfl ?_ v_sliceLHM)
    refine m_val rfl ?_ v_move
    refine m_val rfl ?_ v_move
    (first | refine m_val rfl ?_ v_sliceLo | refine m_val rfl ?_ v_sliceHi | refine m_val rfl ?_ v_sliceLH | refine m_val rfl ?_ v_cutLo | refine m_val rfl ?_ v_cutHi | refine m_val rfl ?_ v_cutLH | refine m_val rfl ?_ v_sliceLHM)
    (refine m_eff rfl ?_ ((e_copyM (enc := ints) (l := List.replicate m x ++ List.replicate (N - m) 0) (zs := List.replicate (min m (N - m)) x) (A := cutA (some ⟨gz, 0, none⟩) 1 N 0) (dl := N - m) (sl := m) m (fun w hw => by rw [hc0, hzs, List.map_take]; exact (row_rd (hw.ok _ List.mem_cons_self)).take _) hc1 (by rw [List.length_replicate]) (by simp only [List.length_append, List.length_replicate]; omega) (.inl (by rw [hc0]; exact Option.some_ne_none _)))); rintro _ _ ⟨rfl, rfl⟩; refine m_go ?_)
    rw [hnew, e8]
    (first | refine m_val rfl ?_ v_add | refine m_val rfl ?_ v_cat)
    refine m_val rfl ?_ v_assign
    repeat (first | refine St.imp ?_ | (refine st_seq ?_; intro K hK) | refine st_t ?_ | refine st_f ?_ | refine st_miss ?_)
    have e6 : ((m : Int) + ((min m (N - m) : Nat) : Int)) = ((m + min m (N - m) : Nat) : Int) := by simp
    rw [e6]
    exact a_weak (hKL (m + min m (N - m)) ⟨by omega, by omega⟩ (by omega))
  · have hge : m = N := by simp at hc; omega
    subst hge
    repeat (first | refine St.imp ?_ | (refine st_seq ?_; intro K hK) | refine st_t ?_ | refine st_f ?_ | refine st_miss ?_)
    repeat (first | refine St.imp ?_ | (refine st_seq ?_; intro K hK) | refine st_t ?_ | refine st_f ?_ | refine st_miss ?_)
    refine a_val ?_ v_move
    refine a_val ?_ v_assign
    repeat (first | refine St.imp ?_ | (refine st_seq ?_; intro K hK) | refine st_t ?_ | refine st_f ?_ | refine st_miss ?_)
    have e7 : List.replicate m x ++ List.replicate (m - m) (0 : Int) = List.replicate m x := by simp
    rw [e7]
    first | refine a_ret Try.results51 ?_ | refine a_end Try.results51 ?_
    exact ⟨⟨List.replicate m x, some ⟨gz, 0, none⟩, m⟩, rfl, by simp, by simp⟩
end Go.Proofs.Ytaclpbkbjmbceaa

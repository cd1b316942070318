/-
  RAFT: what more than half have: quorum.Settled, by sorting.
-/
import Derived.Test.YtaclpbkbjmbceaaRh
import Derived.Shelf.SortM.Plain
import Derived.Lib.SlKeysI
set_option linter.unusedVariables false
set_option linter.unusedSimpArgs false
set_option maxRecDepth 100000
set_option maxHeartbeats 2000000
namespace Go.Proofs.Ytaclpbkbjmbceaa
open Go.Eng Go.RowKit Go.Shelf Go.Maps Go.Sort
def SrtI.lay_ren : Go.Shelf.Ren := ⟨fun | 5 => 63 | 8 => 67 | 7 => 66 | 19 => 77 | 20 => 78 | 10 => 68 | 11 => 69 | 12 => 70 | 13 => 71 | 14 => 72 | 15 => 73 | 16 => 74 | 17 => 75 | 18 => 76 | 30 => 79 | 31 => 80 | 32 => 81 | 33 => 82 | 34 => 83 | 35 => 84 | 40 => 85 | n => n, fun | 23 => 29 | 25 => 3 | 3 => 3 | 32 => 66 | 22 => 29 | 0 => 0 | 44 => 101 | 46 => 23 | 4 => 4 | 36 => 116 | 35 => 115 | 41 => 79 | 5 => 5 | 9 => 9 | 53 => 124 | 57 => 128 | 63 => 130 | 64 => 69 | n => n, fun n => n⟩
theorem SrtI.lay : SlLaysM.n5 Try.prog SrtI.lay_ren where
  mixed := by kernel_rfl
  f5 := ⟨ "slices.Sort[[]int,int]", by decide, Try.func63.trans (congrArg some (by kernel_rfl))⟩
  f7 := ⟨ "slices.pdqsortOrdered[int]", by decide, Try.func66.trans (congrArg some (by kernel_rfl))⟩
  f8 := Try.func67.trans (congrArg some (by kernel_rfl))
  f10 := ⟨ "slices.insertionSortOrdered[int]", by decide, Try.func68.trans (congrArg some (by kernel_rfl))⟩
  f11 := ⟨ "slices.heapSortOrdered[int]", by decide, Try.func69.trans (congrArg some (by kernel_rfl))⟩
  f12 := ⟨ "slices.breakPatternsOrdered[int]", by decide, Try.func70.trans (congrArg some (by kernel_rfl))⟩
  f13 := ⟨ "slices.choosePivotOrdered[int]", by decide, Try.func71.trans (congrArg some (by kernel_rfl))⟩
  f14 := ⟨ "slices.reverseRangeOrdered[int]", by decide, Try.func72.trans (congrArg some (by kernel_rfl))⟩
  f15 := ⟨ "slices.partialInsertionSortOrdered[int]", by decide, Try.func73.trans (congrArg some (by kernel_rfl))⟩
  f16 := ⟨ "cmp.Less[int]", by decide, Try.func74.trans (congrArg some (by kernel_rfl))⟩
  f17 := ⟨ "slices.partitionEqualOrdered[int]", by decide, Try.func75.trans (congrArg some (by kernel_rfl))⟩
  f18 := ⟨ "slices.partitionOrdered[int]", by decide, Try.func76.trans (congrArg some (by kernel_rfl))⟩
  f19 := Try.func77.trans (congrArg some (by kernel_rfl))
  f20 := Try.func78.trans (congrArg some (by kernel_rfl))
  f30 := ⟨ "slices.siftDownOrdered[int]", by decide, Try.func79.trans (congrArg some (by kernel_rfl))⟩
  f31 := Try.func80.trans (congrArg some (by kernel_rfl))
  f32 := Try.func81.trans (congrArg some (by kernel_rfl))
  f33 := ⟨ "slices.medianAdjacentOrdered[int]", by decide, Try.func82.trans (congrArg some (by kernel_rfl))⟩
  f34 := ⟨ "slices.medianOrdered[int]", by decide, Try.func83.trans (congrArg some (by kernel_rfl))⟩
  f35 := ⟨ "cmp.isNaN[int]", by decide, Try.func84.trans (congrArg some (by kernel_rfl))⟩
  f40 := ⟨ "slices.order2Ordered[int]", by decide, Try.func85.trans (congrArg some (by kernel_rfl))⟩
  t0 := Try.underlying0
  a0 := Try.isAgg0
  z0 := Try.sizeOf0
  v0 := Try.zeroValue0
  t3 := Try.underlying3
  a3 := Try.isAgg3
  z3 := Try.sizeOf3
  v3 := Try.zeroValue3
  t4 := Try.underlying4
  a4 := Try.isAgg4
  z4 := Try.sizeOf4
  v4 := Try.zeroValue4
  t5 := Try.underlying5
  a5 := Try.isAgg5
  z5 := Try.sizeOf5
  v5 := Try.zeroValue5
  t9 := Try.underlying9
  a9 := Try.isAgg9
  z9 := Try.sizeOf9
  v9 := Try.zeroValue9
  t22 := Try.underlying29
  a22 := Try.isAgg29
  z22 := Try.sizeOf29
  v22 := Try.zeroValue29
  t23 := Try.underlying29
  a23 := Try.isAgg29
  z23 := Try.sizeOf29
  v23 := Try.zeroValue29
  t25 := Try.underlying3
  a25 := Try.isAgg3
  z25 := Try.sizeOf3
  v25 := Try.zeroValue3
  t32 := Try.underlying66
  a32 := Try.isAgg66
  z32 := Try.sizeOf66
  v32 := Try.zeroValue66
  t35 := Try.underlying115
  a35 := Try.isAgg115
  z35 := Try.sizeOf115
  v35 := Try.zeroValue115
  t36 := Try.underlying116
  a36 := Try.isAgg116
  z36 := Try.sizeOf116
  v36 := Try.zeroValue116
  t41 := Try.underlying79
  a41 := Try.isAgg79
  z41 := Try.sizeOf79
  v41 := Try.zeroValue79
  t44 := Try.underlying101
  a44 := Try.isAgg101
  z44 := Try.sizeOf101
  v44 := Try.zeroValue101
  t46 := Try.underlying23
  a46 := Try.isAgg23
  z46 := Try.sizeOf23
  v46 := Try.zeroValue23
  t53 := Try.underlying124
  a53 := Try.isAgg124
  z53 := Try.sizeOf124
  v53 := Try.zeroValue124
  t57 := Try.underlying128
  a57 := Try.isAgg128
  z57 := Try.sizeOf128
  v57 := Try.zeroValue128
  t63 := Try.underlying130
  a63 := Try.isAgg130
  z63 := Try.sizeOf130
  v63 := Try.zeroValue130
  t64 := Try.underlying69
  a64 := Try.isAgg69
  z64 := Try.sizeOf69
  v64 := Try.zeroValue69
theorem ints_flat (l : List Int) : (l.map ints).flatten = l.map (Value.int .i64) := by
  induction l with
  | nil => rfl
  | cons x l ih => simp [ints, ih]
theorem cell_lt {w : World} {a : Addr} {v : Value} (h : w.cell? a = some v) : a.block < w.heap.size := by
  obtain ⟨o, ho, _⟩ := not_walk_of_cell h
  exact (Array.getElem?_eq_some_iff.1 ho).1
theorem appendSeq_m (l : List Int) (A : Option Addr) (c Bs : Nat) (w : World) [hb : Sl w (fpAll []) (fun v : Value => [v]) 1 [Value.slice A l.length c] (some ⟨Bs, 0, none⟩) 1] [hl : Sl w (fpAll []) ints 1 l A c] (h0 : 0 < l.length) (hlen : l.length ≤ 100000) :
    Meets Try.prog 65 [.slice none 0 0, .func (.func 64) #[] #[.pointer (some ⟨Bs, 0, none⟩)]] w (fpAll []) (fun v As => ∃ y : At Int, y.l = l ∧ v = y.v ∧ As = [rowI y]) := by
  obtain ⟨b1, o1, e1, hcB⟩ := hb.rd.rd (by simp)
  cases e1
  have hcB := (hcB 0 _ rfl).2 0 _ rfl
  obtain ⟨b, o, e2, hcs⟩ := hl.rd.rd (by simpa using h0)
  subst e2
  have hI : ∀ j, j < l.length → w.cell? ⟨b, o + j, none⟩ = some (.int .i64 (l[j]?.getD 0)) := fun j hj => by
    have h := (hcs j _ (getmap (List.getElem?_eq_getElem hj))).2 0 _ rfl
    rw [List.getElem?_eq_getElem hj]
    simpa using h
  have hb2 := cell_lt (hI 0 h0)
  have hB2 := cell_lt hcB
  refine Calls.mono (callsIn_wide.1 (appendSeq_in Fence.wide 3 trivial trivial rfl (by omega) Bs b o c l hlen w hB2 hcB hb2 hI)) ?_
  rintro e w' ⟨v, rfl, hrow, hbel⟩
  have hmap := ints_flat l
  rcases hrow.2 with ⟨rfl, hz⟩ | ⟨g, cap, cur, rfl, hbase, hgb, r1, r2, r3, r4⟩
  · omega
  · refine ⟨_, [rowI ⟨l, some ⟨g, 0, none⟩, cap⟩], rfl, ⟨⟨l, some ⟨g, 0, none⟩, cap⟩, rfl, rfl, rfl⟩, ?_⟩
    refine (HeapOK.start w).push hbel ⟨⟨by simp [hmap], .inr ⟨g, cap, cur, by simp, Nat.zero_le _, hgb, by simpa using r1, r2, r3, by simpa [hmap] using r4⟩⟩, fun c hc => ?_⟩ fun k hk => ?_
    · obtain ⟨x, _, rfl⟩ := List.mem_map.1 hc
      rfl
    · have hk : some g = some k := hk
      cases hk
      exact ⟨hbase, (Array.getElem?_eq_some_iff.1 hgb).1⟩
theorem sort_m (y : At Int) (w : World) (hb : HeapOK w (fpAll [rowI y]) [rowI y] w) (h0 : 0 < y.l.length) (hlen : y.l.length ≤ 100000) :
    Meets Try.prog 63 [y.v] w (fpAll [rowI y]) (fun v As => v = .tuple #[] ∧ As = [rowI ⟨y.l.mergeSort (fun a b => decide (a ≤ b)), y.a, y.c⟩]) := by
  obtain ⟨l, A, c⟩ := y
  have hmap := ints_flat
  change 0 < l.length at h0
  change l.length ≤ 100000 at hlen
  have hrow := (hb.ok _ List.mem_cons_self).1
  rcases hrow.2 with ⟨_, hz⟩ | ⟨g, cap, cur, hv, hbase, hgb, r1, r2, r3, r4⟩
  · simp at hz; rw [hz] at h0; simp at h0
  · obtain ⟨rfl, hcc⟩ : A = some ⟨g, 0, none⟩ ∧ c = cap := by simpa using hv
    subst hcc
    simp only [List.length_map] at r1 r3 r4
    have hH : Holds encZ w g 0 l.toArray := holds_of_block_i hgb (by simpa [hmap] using r4)
    have hgl : g < w.heap.size := (Array.getElem?_eq_some_iff.1 hgb).1
    refine Calls.mono (AnyM.slices_Sort_int SrtI.lay g 0 c l w hH hgl (by omega)) ?_
    rintro e w' ⟨rfl, n, os, rfl⟩
    refine ⟨_, _, rfl, ⟨rfl, rfl⟩, ?_⟩
    have hg : w.grownBy (grow (putRow encZ (Sort.ahead w n) g 0 (l.mergeSort fun x y => decide (x ≤ y)).toArray) os) (some g) := grownBy_sorted_i _
    have hs : (l.mergeSort fun x y => decide (x ≤ y)).length = l.length := List.length_mergeSort _
    have ho := ownsRow_sorted_i (w := w) (base := 0) (g := g) (cap := c) (n := n) (os := os) (ts := l.mergeSort fun x y => decide (x ≤ y)) hs (Nat.zero_le _) hgb r1 r2 r3
    refine hb.rep (A' := rowI ⟨l.mergeSort (fun a b => decide (a ≤ b)), some ⟨g, 0, none⟩, c⟩) Rep.here hg.os hg.tape hg.output hg.size (fun k hk hn => hg.block k hk fun e => hn (by simpa [Atom.fp, Value.ownBlock] using e.symm)) ⟨by rw [hmap, List.length_map, hs]; exact ho, fun c hc => ?_⟩ fun k hk => ?_
    · obtain ⟨x, _, rfl⟩ := List.mem_map.1 hc
      rfl
    · have hk : some g = some k := hk
      cases hk
      exact ⟨.inl rfl, Nat.lt_of_lt_of_le hgl hg.size⟩
theorem valuesF_m (A : Option Addr) (n c : Nat) (w : World) : Meets Try.prog 61 [.slice A n c] w (fpAll []) (fun v As => ∃ Bs : Nat, v = .func (.func 64) #[] #[.pointer (some ⟨Bs, 0, none⟩)] ∧ As = [.blk Bs [.slice A n c] 29]) := by
  refine enter tysOK Try.func61 rfl Try.ntmps61 rfl (HeapOK.start w) ?_
  repeat (first | refine St.imp ?_ | (refine st_seq ?_; intro K hK) | refine st_t ?_ | refine st_f ?_ | refine st_miss ?_)
  (refine a_eff ?_ e_box; rintro _ _ ⟨bz, rfl, rfl⟩)
  refine a_val ?_ v_assign
  repeat (first | refine St.imp ?_ | (refine st_seq ?_; intro K hK) | refine st_t ?_ | refine st_f ?_ | refine st_miss ?_)
  refine a_val ?_ v_makeFunc
  refine a_val ?_ v_assign
  repeat (first | refine St.imp ?_ | (refine st_seq ?_; intro K hK) | refine st_t ?_ | refine st_f ?_ | refine st_miss ?_)
  first | refine a_ret Try.results61 ?_ | refine a_end Try.results61 ?_
  exact ⟨bz, rfl, rfl⟩
theorem collect_m (l : List Int) (A : Option Addr) (c Bs : Nat) (w : World) [hb : Sl w (fpAll []) (fun v : Value => [v]) 1 [Value.slice A l.length c] (some ⟨Bs, 0, none⟩) 1] [hl : Sl w (fpAll []) ints 1 l A c] (h0 : 0 < l.length) (hlen : l.length ≤ 100000) :
    Meets Try.prog 62 [.func (.func 64) #[] #[.pointer (some ⟨Bs, 0, none⟩)]] w (fpAll []) (fun v As => ∃ y : At Int, y.l = l ∧ v = y.v ∧ As = [rowI y]) := by
  refine enter tysOK Try.func62 rfl Try.ntmps62 rfl (HeapOK.start w) ?_
  repeat (first | refine St.imp ?_ | (refine st_seq ?_; intro K hK) | refine st_t ?_ | refine st_f ?_ | refine st_miss ?_)
  refine a_val ?_ v_assign
  repeat (first | refine St.imp ?_ | (refine st_seq ?_; intro K hK) | refine st_t ?_ | refine st_f ?_ | refine st_miss ?_)
  refine a_val ?_ v_move
  (refine a_eff ?_ (e_callN rfl rfl fun w hw => appendSeq_m l A c Bs w h0 hlen); rintro _ _ ⟨_, ⟨y, hy, rfl, rfl⟩, rfl⟩; simp only [List.cons_append, List.nil_append])
  refine a_val ?_ v_assign
  repeat (first | refine St.imp ?_ | (refine st_seq ?_; intro K hK) | refine st_t ?_ | refine st_f ?_ | refine st_miss ?_)
  first | refine a_ret Try.results62 ?_ | refine a_end Try.results62 ?_
  exact ⟨y, hy, rfl, rfl⟩
theorem sorted_m (l : List Int) (A : Option Addr) (c Bs : Nat) (w : World) [hb : Sl w (fpAll []) (fun v : Value => [v]) 1 [Value.slice A l.length c] (some ⟨Bs, 0, none⟩) 1] [hl : Sl w (fpAll []) ints 1 l A c] (h0 : 0 < l.length) (hlen : l.length ≤ 100000) :
    Meets Try.prog 60 [.func (.func 64) #[] #[.pointer (some ⟨Bs, 0, none⟩)]] w (fpAll []) (fun v As => ∃ y : At Int, y.l.Perm l ∧ y.l.Pairwise (· ≤ ·) ∧ v = y.v ∧ As = [rowI y]) := by
  refine enter tysOK Try.func60 rfl Try.ntmps60 rfl (HeapOK.start w) ?_
  repeat (first | refine St.imp ?_ | (refine st_seq ?_; intro K hK) | refine st_t ?_ | refine st_f ?_ | refine st_miss ?_)
  refine a_val ?_ v_assign
  repeat (first | refine St.imp ?_ | (refine st_seq ?_; intro K hK) | refine st_t ?_ | refine st_f ?_ | refine st_miss ?_)
  refine a_val ?_ v_move
  (refine a_eff ?_ (e_callN rfl rfl fun w hw => collect_m l A c Bs w h0 hlen); rintro _ _ ⟨_, ⟨y, hy, rfl, rfl⟩, rfl⟩; simp only [List.cons_append, List.nil_append])
  refine a_val ?_ v_assign
  repeat (first | refine St.imp ?_ | (refine st_seq ?_; intro K hK) | refine st_t ?_ | refine st_f ?_ | refine st_miss ?_)
  refine a_val ?_ v_move
  (refine a_eff ?_ (e_callO [rowI y] rfl rfl fun w hw hb => sort_m y w hb (by rw [hy]; exact h0) (by rw [hy]; exact hlen)); rintro _ _ ⟨_, ⟨rfl, rfl⟩, rfl⟩; simp only [List.cons_append, List.nil_append])
  repeat (first | refine St.imp ?_ | (refine st_seq ?_; intro K hK) | refine st_t ?_ | refine st_f ?_ | refine st_miss ?_)
  refine a_val ?_ v_move
  refine a_val ?_ v_assign
  repeat (first | refine St.imp ?_ | (refine st_seq ?_; intro K hK) | refine st_t ?_ | refine st_f ?_ | refine st_miss ?_)
  first | refine a_ret Try.results60 ?_ | refine a_end Try.results60 ?_
  have hs := List.pairwise_mergeSort (le := fun a b : Int => decide (a ≤ b)) (fun a b c h1 h2 => by simp at *; omega) (fun a b => by simp; omega) y.l
  exact ⟨⟨y.l.mergeSort (fun a b => decide (a ≤ b)), y.a, y.c⟩, by rw [← hy]; exact List.mergeSort_perm _ _, hs.imp fun h => by simpa using h, by simp [List.length_mergeSort], rfl⟩
theorem settled_m (l : List Int) (A : Option Addr) (c : Nat) (w : World) [hl : Sl w (fpAll []) ints 1 l A c] (h0 : 0 < l.length) (hlen : l.length ≤ 100) (hnn : ∀ x ∈ l, 0 ≤ x) : Meets Try.prog 56 [.slice A l.length c] w (fpAll []) (fun v _ => v = .int .i64 (settledI l)) := by
  refine enter tysOK Try.func56 rfl Try.ntmps56 rfl (HeapOK.start w) ?_
  repeat (first | refine St.imp ?_ | (refine st_seq ?_; intro K hK) | refine st_t ?_ | refine st_f ?_ | refine st_miss ?_)
  refine a_val ?_ v_assign
  repeat (first | refine St.imp ?_ | (refine st_seq ?_; intro K hK) | refine st_t ?_ | refine st_f ?_ | refine st_miss ?_)
  refine a_val ?_ v_move
  (refine a_eff ?_ (e_callN rfl rfl fun w hw => valuesF_m A l.length c w); rintro _ _ ⟨_, ⟨Bs, rfl, rfl⟩, rfl⟩; simp only [List.cons_append, List.nil_append])
  (refine a_eff ?_ (e_callN rfl rfl fun w hw => (haveI := Sl.blk1 (hw := hw) (enc := fun v : Value => [v]) (s := 1) (w := w) (Bs := []) (g := Bs) (Value.slice A l.length c); sorted_m l A c Bs w h0 (by omega))); rintro _ _ ⟨_, ⟨y, hp, hs, rfl, rfl⟩, rfl⟩; simp only [List.cons_append, List.nil_append])
  refine a_val ?_ v_assign
  repeat (first | refine St.imp ?_ | (refine st_seq ?_; intro K hK) | refine st_t ?_ | refine st_f ?_ | refine st_miss ?_)
  have hyl : y.l.length = l.length := hp.length_eq
  have hq : ((y.l.length : Int) - 1).tdiv 2 = (((l.length - 1) / 2 : Nat) : Int) := by
    have e : (y.l.length : Int) - 1 = ((l.length - 1 : Nat) : Int) := by omega
    rw [e]
    rfl
  have hw1 : IntKind.i64.wrap (((y.l.length : Int) - 1).tdiv 2) = (((l.length - 1) / 2 : Nat) : Int) := by rw [hq, IntKind.wrap_i64]; omega
  obtain ⟨m, hm⟩ := get_some (l := y.l) (j := (((l.length - 1) / 2 : Nat) : Int)) (by omega) (by omega)
  have hset : settledI l = m := settled_sorted l y.l hp hs hnn ((l.length - 1) / 2) m rfl (by rw [Int.toNat_natCast] at hm; exact hm)
  repeat (first | refine St.imp ?_ | (refine st_seq ?_; intro K hK) | refine st_t ?_ | refine st_f ?_ | refine st_miss ?_)
  refine a_val ?_ v_move
  refine a_val ?_ v_move
  (first | refine a_val ?_ v_len | refine a_val ?_ v_lenS)
  refine a_val ?_ v_sub
  refine a_val ?_ v_quo
  rw [hw1]
  (first | refine a_val ?_ v_index | refine a_val ?_ v_indexB)
  (first | refine a_val ?_ v_load | refine a_val ?_ v_loadA | refine a_val ?_ (v_loadE hm) | refine a_val ?_ (v_loadE0 hm) | refine a_val ?_ (v_loadEA hm) | refine a_val ?_ (v_loadEA0 hm))
  refine a_val ?_ v_assign
  repeat (first | refine St.imp ?_ | (refine st_seq ?_; intro K hK) | refine st_t ?_ | refine st_f ?_ | refine st_miss ?_)
  first | refine a_ret Try.results56 ?_ | refine a_end Try.results56 ?_
  rw [hset]
end Go.Proofs.Ytaclpbkbjmbceaa

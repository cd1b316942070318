/-
  THE ENGINE's append OF ZEROS, where there is no room.
-/
import Derived.Test.YtaclpbkbjmbceaaEngL
set_option linter.unusedVariables false
set_option linter.unusedSimpArgs false
namespace Go.Eng
open Go.RowKit
theorem run_append_zeros {P : Program} (w : World) (t t2 ty e : TypeId) (i : TypeInfo) (z : Value) (q : IntKind) (ht : P.underlying t = some (.slice e)) (hi : P.info? e = some i) (hz : i.zero = some z) (ht2 : P.underlying t2 = some (.int q))
    (D : Option Addr) (sLen sCap m : Nat) (olds : List Value) (hf : ∀ w' : World, w'.heap = w.heap → (Builtin.firstCells i.size sLen (.slice D sLen sCap)).run P w' = .ok olds.toArray w') (hm : 0 < m * i.size)
    (hg : sCap < sLen + m) (h63 : sLen + m ≤ 140737488355328) (hb : (sLen + m) * i.bytes ≤ 140737488355328) :
    (Builtin.append_ #[t, t2] ty #[.slice D sLen sCap, .int .i64 m]).run P w =
      .ok (.slice (some ⟨w.heap.size, 0, none⟩) (sLen + m) (grownCap w (sLen + m) sCap e)) (w.drew.alloc (.cells (olds.toArray ++ Builtin.zeroCells z.cells m ++ Builtin.zeroCells z.cells (grownCap w (sLen + m) sCap e - (sLen + m))) e)) := by
  have hn : ¬ (sLen + m ≤ sCap) := by omega
  have h48 := growslice_fits hg hb
  have h48' : ¬ (281474976710656 < Builtin.nextslicecap (sLen + m) sCap * i.bytes) := by omega
  have hw : IntKind.i64.wrap (m : Int) = m := by rw [IntKind.wrap_i64]; omega
  have h1 : ¬ ((m : Int) < 0) := by omega
  have hmb : m * i.bytes ≤ 140737488355328 := Nat.le_trans (Nat.mul_le_mul_right _ (by omega)) hb
  have h2 : ¬ (281474976710656 < (m : Int) * (i.bytes : Int)) := by
    have : ((m * i.bytes : Nat) : Int) ≤ 140737488355328 := by omega
    rw [Int.natCast_mul] at this
    omega
  have h3 : ¬ (9223372036854775807 < ((sLen : Int) + (m : Int))) := by omega
  have h4 : m ≠ 0 := fun e => by subst e; simp at hm
  have h5 : i.size ≠ 0 := fun e => by rw [e] at hm; simp at hm
  have hf1 := hf w.drew rfl
  simp [Builtin.append_, run_underlying ht, run_underlying ht2, asInt, asIntOf, sizeOf, typeInfo, zeroValue, hi, hz, hw, h1, h2, hn, h3, h48', h4, h5, Question.forced, hf1, newRow, grownCap]
  try (intro h0; exact absurd h0 (by omega))
theorem zeroCells_flat (z : Array Value) (m : Nat) : (Builtin.zeroCells z m).toList = (List.replicate m z.toList).flatten := by
  have hzm : ∀ c ∈ List.replicate m z.toList, c.length = z.size := fun c hc => by rw [(List.mem_replicate.1 hc).2]; simp
  have hfl : (List.replicate m z.toList).flatten.length = m * z.size := by rw [flatten_length hzm]; simp
  apply List.ext_getElem?
  intro j
  by_cases hj : j < m * z.size
  · have hs0 : 0 < z.size := Nat.pos_of_ne_zero fun e => by rw [e] at hj; simp at hj
    have hmod := Nat.mod_lt j hs0
    have hdm := Nat.div_add_mod j z.size
    have hk : j / z.size < m := Nat.div_lt_of_lt_mul (by rwa [Nat.mul_comm])
    have e1 := flatten_get hzm (j := j / z.size) (c := z.toList) (by simp [hk]) (j % z.size) z[j % z.size] (by simp [hmod])
    rw [Nat.mul_comm (j / z.size), hdm] at e1
    rw [e1]
    have e3 : z[j % z.size]! = z[j % z.size] := by simp [hmod]
    simp [Builtin.zeroCells, hj, e3]
  · have e4 : (Builtin.zeroCells z m).toList.length = m * z.size := by simp [Builtin.zeroCells]
    rw [List.getElem?_eq_none (by omega), List.getElem?_eq_none (by omega)]
section
variable {Γ : Ctx} {e : Env} {As Rs : List Atom} {d : Option Tmp} {ty : TypeId} {pos : String} {af : Array Edge} {gd : Option (Nat × Bool)} {t t2 el : TypeId} {i i2 ie : TyI}
theorem eff_append_zeros {x y : Operand} {D : Option Addr} {k c m : Nat} {mi : Int} {q : IntKind} {ys : List (List Value)} {ats : Array TypeId} (hx : ev e x = some (.slice D k c)) (hy : ev e y = some (.int .i64 mi)) (hmi : mi = m) (hat : ats = #[t, t2]) (ht : tfind Γ.tys t = some i) (hd : i.td = .slice el) (he : tfind Γ.tys el = some ie) (ht2 : tfind Γ.tys t2 = some i2) (hd2 : i2.td = .int q)
    (hz : Nat.beq ie.zero.length ie.size = true) (hp : Nat.blt 0 ie.size = true) (hm : 0 < m) (hR : ∀ w, HeapOK Γ.w0 Γ.F0 As w → Rd w D ie.size ys) (hk : ys.length = k) (hys : ∀ c ∈ ys, c.length = ie.size) (hg : c < k + m) (h63 : k + m ≤ 140737488355328) (hb : (k + m) * ie.bytes ≤ 140737488355328) :
    Eff Γ e As ⟨d, .call { callee := .builtin .append, args := #[x, y], argTypes := ats }, ty, pos, af, gd⟩ (fun u As' => ∃ g' c', u = .slice (some ⟨g', 0, none⟩) (k + m) c' ∧ k + m ≤ c' ∧ As' = .row (.slice (some ⟨g', 0, none⟩) (k + m) c') el ie.size (ys ++ List.replicate m ie.zero) :: As) := .mk fun a w ha hw => by
  subst hat hk hmi
  have hz := Nat.eq_of_beq_eq_true hz
  have hp : 0 < ie.size := by simpa [Nat.blt_eq] using hp
  obtain ⟨ti, z, h1, h2, h3, h4, h5⟩ := el_info (Γ.ok el ie he)
  obtain ⟨z', hz1, hz2⟩ := run_zeroValue (Γ.ok el ie he) w
  have hzz : z.cells.toList = ie.zero := by
    obtain ⟨ti', z2, g1, g2, g3, g4, g5⟩ := (Γ.ok el ie he).info
    rw [h1] at g1; injection g1 with g1; subst g1
    rw [h2] at g4; injection g4 with g4; subst g4
    exact g5
  have hzs : z.cells.size = ie.size := by rw [h5, hz]
  have hfl : ys.flatten.length = ys.length * ie.size := flatten_length hys
  have hold : ∀ w' : World, w'.heap = w.heap → (Builtin.firstCells ti.size ys.length (.slice D ys.length c)).run Γ.P w' = .ok ys.flatten.toArray w' := fun w' hw' => by
    rw [h3]
    by_cases h0 : ys = []
    · subst h0
      cases D <;> simp [Builtin.firstCells, loadCells, loadCellsFrom]
    · have hpos : 0 < ys.length := List.length_pos_iff.2 h0
      obtain ⟨b, o, rfl, _⟩ := hR w hw hpos
      have hf := (hR w hw).flat hys rfl hpos
      have := run_loadCells_list (P := Γ.P) w' ⟨b, o, none⟩ ys.flatten fun j u hu => by
        have := hf j u hu
        simpa [World.cell?, hw'] using this
      rw [hfl] at this
      simpa [Builtin.firstCells] using this
  have hr := run_append_zeros (P := Γ.P) w t t2 ty el ti z q (slice_of (Γ.ok t i ht) hd) h1 h2 (int_of (Γ.ok t2 i2 ht2) hd2) D ys.length c m ys.flatten hold (by rw [h3]; exact Nat.mul_pos hm hp) hg h63 (by rw [h4]; exact hb)
  have hge := grownCap_ge w (ys.length + m) c el
  have hcm := grownCap_le_maxLen w (ys.length + m) c el (by simp only [maxLen]; omega)
  have h10 : ∀ v w1, (Builtin.append_ #[t, t2] ty #[.slice D ys.length c, .int .i64 m]).run Γ.P w = .ok v w1 → (execOp a.eval ⟨d, .call { callee := .builtin .append, args := #[x, y], argTypes := #[t, t2] }, ty, pos, af, gd⟩).run Γ.P w = .ok (.value v) w1 := fun v w1 h => by
    simp only [execOp, resolve, invoke, builtin, Sem.run_bind, Sem.run_pure, Result.andThen_ok, List.map_toArray, List.map_cons, List.map_nil, ha.eval hx, ha.eval hy, h]
  have hrm : ∀ c ∈ ys ++ List.replicate m ie.zero, c.length = ie.size := fun c hc => (List.mem_append.1 hc).elim (hys c) fun h => by rw [(List.mem_replicate.1 h).2, hz]
  unfold wpR
  rw [h10 _ _ hr]
  refine ⟨_, _, rfl, ⟨w.heap.size, _, rfl, hge, rfl⟩, ?_⟩
  refine HeapOK.push (w' := w.drew.alloc _) hw (A := .row (.slice (some ⟨w.heap.size, 0, none⟩) (ys.length + m) (grownCap w (ys.length + m) c el)) el ie.size (ys ++ List.replicate m ie.zero)) ⟨rfl, rfl, rfl, by simp, fun k hk => heap_alloc_old w.drew _ hk⟩ ⟨⟨flatten_length hrm, .inr ⟨w.heap.size, _, _, by simp, Nat.zero_le _, heap_alloc_new w.drew _, by simpa using hge, hcm, ?_, ?_⟩⟩, hrm⟩ fun k hk => ?_
  · simp only [Array.size_append, List.size_toArray, size_zeroCells, hzs, hfl, ← Nat.add_mul]
    congr 1
    omega
  · simp only [Array.toList_append, List.append_assoc, zeroCells_flat, hzz]
    have e1 : (ys ++ List.replicate m ie.zero).flatten = ys.flatten ++ (List.replicate m ie.zero).flatten := by simp
    have e2 : (ys ++ List.replicate m ie.zero).length * ie.size = (ys.flatten ++ (List.replicate m ie.zero).flatten).length := by rw [← e1, flatten_length hrm]
    rw [e1, e2, ← List.append_assoc]
    exact List.take_left
  · have hk : some w.heap.size = some k := hk
    injection hk with hk
    subst hk
    simp
end
end Go.Eng
